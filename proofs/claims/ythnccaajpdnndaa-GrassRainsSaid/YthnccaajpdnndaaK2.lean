/- Parts of the proof, 2. No conditions. -/
import Derived.Test.YthnccaajpdnndaaK1
import Derived.Conc.Listed
import Derived.Laws.Sem
import Derived.Orders
import Derived.Conc.Holds
import Derived.Conc.Beside
import Derived.Below
import Derived.Test.YthnccaajpdnndaaProg
import Derived.Test.YthnccaajpdnndaaRows
import Derived.Conc.LeavingOf
import Derived.ChangeSlices
import Derived.OpenShut
import Derived.Carry
import Derived.Conc.CrowdComm
import Derived.Conc.TokenTrace
namespace Go.Proofs.Ythnccaajpdnndaa
open Go.Conc
section
variable {P : Program} {ρ : Env} {h : List AObj} {FC : Frm} {w : World} {ft : Foot}
theorem one_ne {v : Value} (h : v.cells.toList.all one = true) : v ≠ unk := by
  rintro rfl
  simp [unk, Value.cells, one] at h
theorem aFill_parts {z : List Value} {ps : List (Nat × Value)} {t : TypeId} {l : List (Nat × Nat × Value)} {K : List Value → Prop} (hp : places P t ps = some l) (hK : aFill z l K) : ∀ p ∈ ps, p.2 ≠ unk := by
  have h1 := aFill_one l z hK
  intro p hpm
  have key : ∃ q ∈ l, q.2.2 = p.2 := by
    unfold places at hp
    split at hp
    · rename_i fs hu
      cases hb : fs.toList.all fun f => (P.info? f.type).isSome with
      | false => rw [hb] at hp; cases hp
      | true =>
        rw [hb] at hp
        simp only [cond_true] at hp
        have h2 := mapM_some ps l hp
        have h3 : (match fs[p.1]? with
          | some f => (tk P f.type).map fun x => (f.offset, x.2, p.2)
          | none => none) ∈ l.map some := by
          rw [← h2]
          exact List.mem_map.2 ⟨p, hpm, rfl⟩
        obtain ⟨q, hq, he⟩ := List.mem_map.1 h3
        refine ⟨q, hq, ?_⟩
        split at he
        · obtain ⟨x, _, hx⟩ := Option.map_eq_some_iff.1 he.symm
          rw [← hx]
        · cases he
    · split at hp
      · simp only [Option.some.injEq] at hp
        subst hp
        exact ⟨_, List.mem_map.2 ⟨p, hpm, rfl⟩, rfl⟩
      · cases hp
    · split at hp
      · simp only [Option.some.injEq] at hp
        subst hp
        exact ⟨_, List.mem_map.2 ⟨p, hpm, rfl⟩, rfl⟩
      · cases hp
    · cases hp
  obtain ⟨q, hq, he⟩ := key
  rw [← he]
  exact h1 q hq
theorem parts_ne {r : Nat → Value} {ps : Array (Nat × Operand)} {z : List Value} {t : TypeId} {l : List (Nat × Nat × Value)} {K : List Value → Prop} (hp : places P t (ps.toList.map fun (i, x) => (i, ev r x)) = some l) (hK : aFill z l K) :
    ∀ p ∈ ps.toList, ev r p.2 ≠ unk := fun p hpm => aFill_parts hp hK (p.1, ev r p.2) (List.mem_map.2 ⟨p, hpm, rfl⟩)
theorem kOk_ne {n : Nat} {t : TypeId} {v : Value} (h : kOk P n t v = true) : v ≠ unk := by
  rintro rfl
  cases n with
  | zero => cases h
  | succ n =>
    unfold kOk at h
    cases hu : P.underlying t with
    | none => rw [hu] at h; simp at h
    | some d => rw [hu] at h; cases d <;> simp [unk] at h
theorem build_ty {t : TypeId} (h : aggT P t = true) : (∃ fs, P.underlying t = some (.struct fs)) ∨ ∃ m e, P.underlying t = some (.array m e) := by
  unfold aggT at h
  split at h
  · rename_i d hd
    cases d <;> first | (cases h; done) | exact .inl ⟨_, hd⟩ | exact .inr ⟨_, _, hd⟩
  · cases h
theorem minmax_ne (mx : Bool) : ∀ (l : List Operand) (x : Value) (f : Operand → Value) {K : Value → Prop}, (match mx with | true => aMax x (l.map f) K | false => aMin x (l.map f) K) → (l ≠ [] → x ≠ unk) ∧ ∀ y ∈ l, f y ≠ unk
  | [], _, _, _, _ => ⟨fun h => absurd rfl h, fun y hy => by cases hy⟩
  | y :: l, x, f, K, hK => by
    cases mx with
    | true =>
      simp only [List.map_cons, aMax] at hK
      split at hK
      · rename_i k a k' b hy
        have := minmax_ne true l _ f hK
        refine ⟨fun _ => by simp [unk], fun z hz => ?_⟩
        rcases List.mem_cons.1 hz with rfl | hz
        · rw [hy]; simp [unk]
        · exact this.2 z hz
      · exact hK.elim
    | false =>
      simp only [List.map_cons, aMin] at hK
      split at hK
      · rename_i k a k' b hy
        have := minmax_ne false l _ f hK
        refine ⟨fun _ => by simp [unk], fun z hz => ?_⟩
        rcases List.mem_cons.1 hz with rfl | hz
        · rw [hy]; simp [unk]
        · exact this.2 z hz
      · exact hK.elim
theorem aop_sound {a : Act} {r : Nat → Value} (H : HRel ρ h FC w ft) (hr : RegRel h.length ρ r a.tmps) (o : Oper) {K : Value → List AObj → Prop} (hK : aop P o.op r h K) {Q : Next → World → Prop}
    (hQ : ∀ v h' ρ' w' nx, K v h' → Goes1 ρ h FC w ft ρ' h' w' → NxRel h'.length ρ' v nx → Q nx w') : RunsTo P (EvOk ft) (execOp a.eval o) w Q := by
  have er := fun x => ev_rel hr x
  have qx : ∀ v c, K v h → VRel h.length ρ v c → Q (.value c) w := fun v c hk hv => hQ v h ρ w _ hk (Goes1.refl H) (.inr ⟨c, rfl, hv⟩)
  have qv : ∀ v, K v h → VOk h.length v → Q (.value (ren ρ v)) w := fun v hk hv => qx v _ hk (.inr ⟨hv, rfl⟩)
  have qn : ∀ v h' ρ' w', K v h' → VOk h'.length v → Goes1 ρ h FC w ft ρ' h' w' → Q (.value (ren ρ' v)) w' := fun v h' ρ' w' hk hv g => hQ v h' ρ' w' _ hk g (.inr ⟨_, rfl, .inr ⟨hv, rfl⟩⟩)
  have val : ∀ {x : Operand}, ev r x ≠ unk → VOk h.length (ev r x) ∧ a.eval x = ren ρ (ev r x) := fun hx => (er _).val hx
  obtain ⟨dst, op, ty, pos, after, guard⟩ := o
  unfold execOp
  cases op <;> simp only [aop] at hK <;> dsimp only
  case move x => exact RunsTo.pure (qx _ _ hK (er x))
  case assign x => exact RunsTo.pure (qx _ _ hK (er x))
  case pick c x y =>
    split at hK
    · rename_i t hc
      have := (val (x := c) (by rw [hc]; simp [unk])).2
      rw [hc] at this
      rw [this]
      simp only [ren, asBool]
      refine RunsTo.bind (RunsTo.pure (RunsTo.pure ?_))
      cases t with
      | true => exact qx _ _ hK (er x)
      | false => exact qx _ _ hK (er y)
    · exact hK.elim
  case alloc t =>
    split at hK
    · rename_i l hz
      exact RunsTo.bind (sound_alloc H hz hK fun v h' ρ' w' hk hv g => RunsTo.pure (qn v h' ρ' w' hk hv g))
    · exact hK.elim
  case box t x =>
    obtain ⟨h1, h2⟩ := val (x := x) (one_ne hK.1)
    rw [h2]
    exact RunsTo.bind (sound_box H h1 hK fun v h' ρ' w' hk hv g => RunsTo.pure (qn v h' ρ' w' hk hv g))
  case build t ps =>
    split at hK
    · rename_i z l hz hp
      cases hag : aggT P t with
      | false => rw [hag] at hK; exact hK.elim
      | true =>
      rw [hag] at hK
      simp only [cond_true] at hK
      have hne : ∀ p ∈ ps.toList, ev r p.2 ≠ unk := parts_ne hp hK
      have hty := build_ty hag
      refine RunsTo.bind (sound_build hz hp (fun p hp' => ?_) hty hK _ (parts_rel hr ps hne) fun v hk hv => RunsTo.pure (qv v hk hv))
      obtain ⟨q, hq, rfl⟩ := List.mem_map.1 hp'
      exact (val (hne q hq)).1
    · exact hK.elim
  case buildSlice t n ps =>
    split at hK
    · rename_i e hu
      split at hK
      · rename_i z g s l hz ht hp
        obtain ⟨⟨c1, c2, c3⟩, hK⟩ := hK
        have hne : ∀ p ∈ ps.toList, ev r p.2 ≠ unk := parts_ne hp hK
        refine RunsTo.bind (sound_buildSlice H hu hz ht hp (fun p hp' => ?_) c1 c2 c3 hK _ (parts_rel hr ps hne) fun v h' ρ' w' hk hv g => RunsTo.pure (qn v h' ρ' w' hk hv g))
        obtain ⟨q, hq, rfl⟩ := List.mem_map.1 hp'
        exact (val (hne q hq)).1
      · exact hK.elim
    · exact hK.elim
  case load t x =>
    split at hK
    · rename_i g s ht
      have hx : ev r x ≠ unk := by
        intro e
        rw [e] at hK
        exact hK
      rw [(val hx).2]
      exact RunsTo.bind (sound_load H ht hK fun v hk hv => RunsTo.pure (qv v hk hv))
    · exact hK.elim
  case store t x y =>
    split at hK
    · rename_i g s ht
      have hx : ev r x ≠ unk := by
        intro e
        rw [e] at hK
        exact hK
      have hy : ev r y ≠ unk := by
        intro e
        rw [e] at hK
        unfold aStore at hK
        split at hK
        · split at hK
          · have := hK.2.1
            simp [unk, Value.cells, one] at this
          · exact hK
        · exact hK
      rw [(val hx).2, (val hy).2]
      exact RunsTo.bind (sound_store H ht (val hy).1 hK fun h' w' hk g => RunsTo.pure (hQ _ h' ρ w' _ hk g (.inl ⟨rfl, rfl⟩)))
    · exact hK.elim
  case nilCheck x =>
    unfold aNil at hK
    split at hK
    · rename_i ad hx
      have := val (x := x) (by rw [hx]; simp [unk])
      rw [hx] at this
      rw [this.2]
      simp only [ren]
      have := qv _ hK this.1
      exact RunsTo.pure (by simpa [ren] using this)
    · rename_i g a b hx
      have := val (x := x) (by rw [hx]; simp [unk])
      rw [hx] at this
      rw [this.2]
      simp only [ren, renFn]
      have := qv _ hK this.1
      exact RunsTo.pure (by simpa [ren, renFn] using this)
    · rename_i l a b hx
      have := val (x := x) (by rw [hx]; simp [unk])
      rw [hx] at this
      rw [this.2]
      simp only [ren, renFn]
      have := qv _ hK this.1
      exact RunsTo.pure (by simpa [ren, renFn] using this)
    · exact hK.elim
  case binOp op t x y yt => exact RunsTo.bind (sound_bin (er x) (er y) hK fun v hk hv => RunsTo.pure (qv v hk hv))
  case unOp op t x =>
    unfold aUn at hK
    split at hK
    · rename_i b hx
      have := (val (x := x) (by rw [hx]; simp [unk])).2
      rw [hx] at this
      rw [this]
      simp only [ren, Op.unary]
      have := qv _ hK (by simp [VOk])
      exact RunsTo.bind (RunsTo.pure (RunsTo.pure (by simpa [ren] using this)))
    · rename_i k n hx
      have := (val (x := x) (by rw [hx]; simp [unk])).2
      rw [hx] at this
      rw [this]
      simp only [ren, Op.unary]
      have := qv _ hK (by simp [VOk])
      exact RunsTo.bind (RunsTo.pure (RunsTo.pure (by simpa [ren] using this)))
    · exact hK.elim
  case convert s d x =>
    split at hK
    · rename_i ks hs
      unfold aConv at hK
      split at hK
      · rename_i k k2 n hd hx
        have := (val (x := x) (by rw [hx]; simp [unk])).2
        rw [hx] at this
        rw [this]
        simp only [ren]
        have := qv _ hK (by simp [VOk])
        refine RunsTo.bind ?_
        unfold convert
        refine RunsTo.bind (RunsTo.underlying hs (RunsTo.bind (RunsTo.underlying hd ?_)))
        simp only [Conv.intToInt]
        exact RunsTo.pure (RunsTo.pure (by simpa [ren] using this))
      · exact hK.elim
    · rename_i e hs
      split at hK
      · rename_i hd he
        have hx : ev r x ≠ unk := by
          intro e
          rw [e] at hK
          exact hK
        rw [(val hx).2]
        exact RunsTo.bind (sound_b2s H hs hd he hK fun v hk hv => RunsTo.pure (qv v hk hv))
      · exact hK.elim
    · exact hK.elim
  case index t x i =>
    split at hK
    · rename_i hu
      have hne : ev r x ≠ unk ∧ ev r i ≠ unk := by
        unfold aIdxStr at hK
        split at hK
        · rename_i h1 h2
          exact ⟨by rw [h1]; simp [unk], by rw [h2]; simp [unk]⟩
        · exact hK.elim
      rw [(val hne.1).2, (val hne.2).2]
      exact RunsTo.bind (sound_idxStr hu hK fun v hk hv => RunsTo.pure (qv v hk hv))
    · rename_i n e hu
      split at hK
      · rename_i g s ht
        have hne : ev r x ≠ unk ∧ ev r i ≠ unk := by
          unfold aIdxV at hK
          split at hK
          · rename_i h2
            have h3 := hK.2
            unfold aField at h3
            split at h3
            · rename_i h1
              exact ⟨by rw [h1]; simp [unk], by rw [h2]; simp [unk]⟩
            · exact h3.elim
          · exact hK.elim
        rw [(val hne.1).2, (val hne.2).2]
        exact RunsTo.bind (sound_idxV hu ht (val hne.1).1 hK fun v hk hv => RunsTo.pure (qv v hk hv))
      · exact hK.elim
    · exact hK.elim
  case makeFunc fn first cap =>
    cases fn with
    | func f =>
      simp only at hK
      obtain ⟨h1, h2⟩ := hK
      have hall : ∀ x ∈ first.toList ++ cap.toList, ev r x ≠ unk := fun x hx => not_undef_of_one (List.all_eq_true.1 h1 x hx)
      have hmap : ∀ (l : List Operand), (∀ x ∈ l, ev r x ≠ unk) → l.map a.eval = (l.map (ev r)).map (ren ρ) ∧ LOk h.length (l.map (ev r)) := by
        intro l hl
        refine ⟨by rw [List.map_map]; exact List.map_congr_left fun x hx => (val (hl x hx)).2, (LOk_iff _).2 fun v hv => ?_⟩
        obtain ⟨x, hx, rfl⟩ := List.mem_map.1 hv
        exact (val (hl x hx)).1
      obtain ⟨f1, f2⟩ := hmap first.toList fun x hx => hall x (List.mem_append.2 (.inl hx))
      obtain ⟨g1, g2⟩ := hmap cap.toList fun x hx => hall x (List.mem_append.2 (.inr hx))
      have e1 : first.map a.eval = ⟨(first.toList.map (ev r)).map (ren ρ)⟩ := by rw [← f1]; cases first; simp
      have e2 : cap.map a.eval = ⟨(cap.toList.map (ev r)).map (ren ρ)⟩ := by rw [← g1]; cases cap; simp
      rw [e1, e2]
      have := qv _ h2 (by simp only [VOk, FnOk, AOk]; exact ⟨trivial, f2, g2⟩)
      unfold Instr.makeFunc
      exact RunsTo.bind (RunsTo.pure (RunsTo.pure (by simpa [ren, renFn, renA_mk] using this)))
    | _ => exact hK.elim
  case makeMap t res =>
    cases res with
    | none =>
      simp only at hK
      exact RunsTo.bind (sound_makeMap H hK fun v h' ρ' w' hk hv g => RunsTo.pure (qn v h' ρ' w' hk hv g))
    | some _ => exact hK.elim
  case makeChan t s =>
    split at hK
    · rename_i dd e hu
      split at hK
      · rename_i i hi
        have hne : ev r s ≠ unk := by
          have := hK.2
          unfold aMkC at this
          split at this
          · rename_i hs
            rw [hs]; simp [unk]
          · exact this.elim
        exact RunsTo.bind (sound_makeChan H ⟨_, hu⟩ hi hK.1 (val hne).2 hK.2 fun v h' ρ' w' hk hv g => RunsTo.pure (qn v h' ρ' w' hk hv g))
      · exact hK.elim
    · exact hK.elim
  case makeSlice t l c =>
    split at hK
    · rename_i e hu
      split at hK
      · rename_i z g s i hz ht hi
        obtain ⟨⟨c1, c2⟩, hK⟩ := hK
        have hne : ev r l ≠ unk ∧ ev r c ≠ unk := by
          unfold aMkS at hK
          split at hK
          · rename_i hl hc
            exact ⟨by rw [hl]; simp [unk], by rw [hc]; simp [unk]⟩
          · exact hK.elim
        rw [(val hne.1).2, (val hne.2).2]
        exact RunsTo.bind (sound_makeSlice H hu hz ht hi c1 c2 hK fun v h' ρ' w' hk hv g => RunsTo.pure (qn v h' ρ' w' hk hv g))
      · exact hK.elim
    · exact hK.elim
  case slice t x lo hi mx =>
    cases mx with
    | none =>
      simp only at hK
      have bne : ∀ {d : Nat} {o : Option Operand} {l : Nat}, bnd d (o.map (ev r)) = some l → o.map a.eval = (o.map (ev r)).map (ren ρ) := by
        intro d o l hb
        cases o with
        | none => rfl
        | some y =>
          have hy : ev r y ≠ unk := by
            intro e
            rw [Option.map_some, e] at hb
            simp [bnd, unk] at hb
          simp only [Option.map_some]
          rw [(val hy).2]
      have hboth : ∀ {d : Nat} {l u : Nat}, bnd 0 (lo.map (ev r)) = some l → bnd d (hi.map (ev r)) = some u → lo.map a.eval = (lo.map (ev r)).map (ren ρ) ∧ hi.map a.eval = (hi.map (ev r)).map (ren ρ) := fun h1 h2 => ⟨bne h1, bne h2⟩
      split at hK
      · rename_i hu
        have hne : ev r x ≠ unk ∧ (lo.map a.eval = (lo.map (ev r)).map (ren ρ) ∧ hi.map a.eval = (hi.map (ev r)).map (ren ρ)) := by
          unfold aSlStr at hK
          split at hK
          · rename_i h1
            split at hK
            · rename_i h2 h3
              exact ⟨by rw [h1]; simp [unk], hboth h2 h3⟩
            · exact hK.elim
          · exact hK.elim
        simp only [Option.map_none]
        rw [(val hne.1).2, hne.2.1, hne.2.2]
        exact RunsTo.bind (sound_slStr hu hK fun v hk hv => RunsTo.pure (qv v hk hv))
      · rename_i e hu
        split at hK
        · rename_i g s ht
          have hne : ev r x ≠ unk ∧ (lo.map a.eval = (lo.map (ev r)).map (ren ρ) ∧ hi.map a.eval = (hi.map (ev r)).map (ren ρ)) := by
            unfold aSl2 at hK
            split at hK
            · rename_i h1
              split at hK
              · rename_i h2 h3
                exact ⟨by rw [h1]; simp [unk], hboth h2 h3⟩
              · exact hK.elim
            · exact hK.elim
          simp only [Option.map_none]
          rw [(val hne.1).2, hne.2.1, hne.2.2]
          exact RunsTo.bind (sound_sl2 H hu ht (val hne.1).1 hK fun v hk hv => RunsTo.pure (qv v hk hv))
        · exact hK.elim
      · rename_i n e hu
        split at hK
        · rename_i g s ht
          have hne : ev r x ≠ unk ∧ (lo.map a.eval = (lo.map (ev r)).map (ren ρ) ∧ hi.map a.eval = (hi.map (ev r)).map (ren ρ)) := by
            unfold aSlA at hK
            split at hK
            · rename_i h1
              split at hK
              · rename_i h2 h3
                exact ⟨by rw [h1]; simp [unk], hboth h2 h3⟩
              · exact hK.elim
            · exact hK.elim
          simp only [Option.map_none]
          rw [(val hne.1).2, hne.2.1, hne.2.2]
          exact RunsTo.bind (sound_slA hu ht (val hne.1).1 hK fun v hk hv => RunsTo.pure (qv v hk hv))
        · exact hK.elim
      · exact hK.elim
    | some mx =>
    cases lo with
    | some _ => exact hK.elim
    | none =>
    cases hi with
    | none => exact hK.elim
    | some hi =>
      simp only at hK
      split at hK
      · rename_i e hu
        split at hK
        · rename_i i hi0
          have hne : ev r x ≠ unk ∧ ev r hi ≠ unk ∧ ev r mx ≠ unk := by
            unfold aSl3 at hK
            split at hK
            · rename_i h1 h2 h3
              exact ⟨by rw [h1]; simp [unk], by rw [h2]; simp [unk], by rw [h3]; simp [unk]⟩
            · exact hK.elim
          simp only [Option.map_none, Option.map_some]
          rw [(val hne.1).2, (val hne.2.1).2, (val hne.2.2).2]
          refine RunsTo.bind ?_
          unfold Instr.sliceAt
          refine RunsTo.bind (RunsTo.underlying hu ?_)
          exact sound_slice3 H hu hi0 (val hne.1).1 hK fun v hk hv => RunsTo.pure (qv v hk hv)
        · exact hK.elim
      · exact hK.elim
  case fieldAddr t x f =>
    split at hK
    · rename_i off hf
      have hx : ev r x ≠ unk := by
        intro e
        rw [e] at hK
        exact hK
      rw [(val hx).2]
      exact RunsTo.bind (sound_fieldAddr hf (val hx).1 hK fun v hk hv => RunsTo.pure (qv v hk hv))
    · exact hK.elim
  case field t x f =>
    split at hK
    · rename_i fs hu
      split at hK
      · rename_i fld hf
        split at hK
        · rename_i g s ht
          have hx : ev r x ≠ unk := by
            intro e
            rw [e] at hK
            exact hK
          rw [(val hx).2]
          exact RunsTo.bind (sound_field hu hf ht (val hx).1 hK fun v hk hv => RunsTo.pure (qv v hk hv))
        · exact hK.elim
      · exact hK.elim
    · exact hK.elim
  case indexAddr t x i =>
    split at hK
    · rename_i e hu
      split at hK
      · rename_i g s ht
        have hne : ev r x ≠ unk ∧ ev r i ≠ unk := by
          unfold aIdx at hK
          split at hK
          · rename_i h1 h2
            exact ⟨by rw [h1]; simp [unk], by rw [h2]; simp [unk]⟩
          · exact hK.elim
        rw [(val hne.1).2, (val hne.2).2]
        exact RunsTo.bind (sound_index hu ht (val hne.1).1 hK fun v hk hv => RunsTo.pure (qv v hk hv))
      · exact hK.elim
    · rename_i n e hu
      split at hK
      · rename_i g s ht
        have hne : ev r x ≠ unk ∧ ev r i ≠ unk := by
          unfold aIdxA at hK
          split at hK
          · rename_i h1 h2
            exact ⟨by rw [h1]; simp [unk], by rw [h2]; simp [unk]⟩
          · exact hK.elim
        rw [(val hne.1).2, (val hne.2).2]
        exact RunsTo.bind (sound_indexA hu ht (val hne.1).1 hK fun v hk hv => RunsTo.pure (qv v hk hv))
      · exact hK.elim
    · exact hK.elim
  case lookup t m k ok =>
    have hne : ev r m ≠ unk ∧ ev r k ≠ unk := by
      unfold aLook at hK
      split at hK
      · rename_i h2
        refine ⟨by rw [h2]; simp [unk], ?_⟩
        split at hK
        · exact kOk_ne hK.1
        · exact hK.elim
      · exact hK.elim
    rw [(val hne.1).2, (val hne.2).2]
    exact RunsTo.bind (sound_lookup H hK fun v hk hv => RunsTo.pure (qv v hk hv))
  case mapUpdate t m k v =>
    obtain ⟨⟨hv1, hv2⟩, hK⟩ := hK
    cases hsk : skey P t with
    | true =>
      rw [hsk, cond_true] at hK
      have hne : ev r m ≠ unk ∧ ev r k ≠ unk := by
        unfold aUpdX at hK
        split at hK
        · rename_i h2
          refine ⟨by rw [h2]; simp [unk], ?_⟩
          split at hK
          · exact kOk_ne hK.1
          · exact hK.elim
        · exact hK.elim
      rw [(val hne.1).2, (val hne.2).2, (val (not_undef_of_one hv2)).2]
      exact RunsTo.bind (sound_updateX H hv1 hK fun h' w' hk g => RunsTo.pure (hQ _ h' ρ w' _ hk g (.inl ⟨rfl, rfl⟩)))
    | false =>
      rw [hsk, cond_false] at hK
      have hne : ev r m ≠ unk ∧ ev r k ≠ unk := by
        unfold aUpd at hK
        split at hK
        · rename_i h2
          refine ⟨by rw [h2]; simp [unk], ?_⟩
          split at hK
          · exact kOk_ne hK.1
          · exact hK.elim
        · exact hK.elim
      rw [(val hne.1).2, (val hne.2).2, (val (not_undef_of_one hv2)).2]
      exact RunsTo.bind (sound_update H hv1 hK fun h' w' hk g => RunsTo.pure (hQ _ h' ρ w' _ hk g (.inl ⟨rfl, rfl⟩)))
  case insert t m k v =>
    obtain ⟨⟨hv1, hv2⟩, hK⟩ := hK
    have hne : ev r m ≠ unk ∧ ev r k ≠ unk := by
      unfold aUpdX at hK
      split at hK
      · rename_i h2
        refine ⟨by rw [h2]; simp [unk], ?_⟩
        split at hK
        · exact kOk_ne hK.1
        · exact hK.elim
      · exact hK.elim
    rw [(val hne.1).2, (val hne.2).2, (val (not_undef_of_one hv2)).2]
    exact RunsTo.bind (sound_updateX H hv1 hK fun h' w' hk g => RunsTo.pure (hQ _ h' ρ w' _ hk g (.inl ⟨rfl, rfl⟩)))
  case range t x =>
    have hne : ev r x ≠ unk := by
      unfold aRange at hK
      split at hK
      · rename_i h2
        rw [h2]
        simp [unk]
      · exact hK.elim
    rw [(val hne).2]
    exact RunsTo.bind (sound_range H hK fun v h' ρ' w' hk hv g => RunsTo.pure (qn v h' ρ' w' hk hv g))
  case next x s =>
    cases s with
    | true => exact hK.elim
    | false =>
      simp only at hK
      have hne : ev r x ≠ unk := by
        unfold aNext at hK
        split at hK
        · rename_i h2
          rw [h2]
          simp [unk]
        · exact hK.elim
      rw [(val hne).2]
      exact RunsTo.bind (sound_next H hK fun v h' w' hk hv g => RunsTo.pure (qn v h' ρ w' hk hv g))
  case entry x =>
    have hne : ev r x ≠ unk := by
      unfold aEntry at hK
      split at hK
      · rename_i h2
        rw [h2]
        simp [unk]
      · exact hK.elim
    rw [(val hne).2]
    exact RunsTo.bind (sound_entry H hK fun v hk hv => RunsTo.pure (qv v hk hv))
  case extract t i =>
    unfold aExt at hK
    split at hK
    · rename_i a1 a2 l0 hx
      generalize hl0 : a1 :: a2 :: l0 = l at hx hK
      split at hK
      · rename_i v hv
        have hne : ev r t ≠ unk := by
          rw [hx]
          intro e
          simp only [unk, Value.tuple.injEq] at e
          have : l = [.tuple ⟨[]⟩] := by simpa using congrArg Array.toList e
          rw [← hl0] at this
          cases this
        have hva := val hne
        rw [hx] at hva
        rw [hva.2]
        simp only [ren, renA_mk, Instr.extract]
        have hok : VOk h.length v := by
          have := hva.1
          simp only [VOk, AOk] at this
          exact LOk_get this hv
        have hget : (Array.mk (l.map (ren ρ)))[i]? = some (ren ρ v) := by simp [hv]
        rw [hget]
        exact RunsTo.bind (RunsTo.pure (RunsTo.pure (qv _ hK hok)))
      · exact hK.elim
    · rename_i bb hx
      obtain ⟨rfl, hk⟩ := hK
      have hne : ev r t ≠ unk := by
        rw [hx]
        simp [unk]
      have hva := val hne
      rw [hx] at hva
      rw [hva.2]
      have e : ren ρ (.tuple ⟨[.bool bb]⟩) = .tuple ⟨[ren ρ (.bool bb)]⟩ := by simp only [ren, renA_mk, List.map]
      rw [e]
      exact RunsTo.bind (RunsTo.pure (RunsTo.pure (qv _ hk (by simp [VOk]))))
    · exact hK.elim
  case call c =>
    obtain ⟨callee, args, argTypes⟩ := c
    cases callee with
    | value f => exact hK.elim
    | invoke x m => exact hK.elim
    | builtin b =>
      obtain ⟨args⟩ := args
      obtain ⟨argTypes⟩ := argTypes
      simp only at hK
      unfold resolve
      simp only
      refine RunsTo.bind (RunsTo.pure ?_)
      unfold invoke builtin
      simp only
      split at hK
      · rename_i x t
        simp only [List.map_toArray, List.map_cons, List.map_nil]
        split at hK
        · rename_i hu
          have hx : ev r x ≠ unk := by
            intro e
            rw [e] at hK
            exact hK
          rw [(val hx).2]
          exact RunsTo.bind (sound_lenStr hu hK fun v hk hv => RunsTo.pure (qv v hk hv))
        · rename_i e hu
          have hx : ev r x ≠ unk := by
            intro e
            rw [e] at hK
            exact hK
          rw [(val hx).2]
          exact RunsTo.bind (sound_len hu hK fun v hk hv => RunsTo.pure (qv v hk hv))
        · rename_i e1 e2 hu
          have hx : ev r x ≠ unk := by
            intro e
            rw [e] at hK
            exact hK
          rw [(val hx).2]
          exact RunsTo.bind (sound_lenM (n := h.length) H hu hK fun v hk hv => RunsTo.pure (qv v hk hv))
        · rename_i n e hu
          exact RunsTo.bind (sound_lenArr hu hK fun v hk hv => RunsTo.pure (qv v hk hv))
        · exact hK.elim
      · rename_i x t
        simp only [List.map_toArray, List.map_cons, List.map_nil]
        split at hK
        · rename_i e hu
          have hx : ev r x ≠ unk := by
            intro e
            rw [e] at hK
            exact hK
          rw [(val hx).2]
          exact RunsTo.bind (sound_capS hu hK fun v hk hv => RunsTo.pure (qv v hk hv))
        · exact hK.elim
      · rename_i x l
        simp only [List.map_toArray, List.map_cons]
        obtain ⟨h1, h2⟩ := minmax_ne false l (ev r x) (fun x => ev r x) hK
        have hm : l.map a.eval = (l.map (ev r)).map (ren ρ) := by
          rw [List.map_map]
          exact List.map_congr_left fun y hy => (val (h2 y hy)).2
        by_cases hxu : ev r x = unk
        · cases l with
          | nil =>
            simp only [List.map_nil, aMin] at hK
            unfold Builtin.min_
            simp only
            exact RunsTo.bind (RunsTo.pure (RunsTo.pure (qx _ _ hK (er x))))
          | cons y l => exact absurd hxu (h1 (by simp))
        · rw [hm, (val hxu).2]
          unfold Builtin.min_
          simp only
          exact RunsTo.bind (minmax_run (n := h.length) false (l.map (ev r)) (ev r x) hK (val hxu).1 fun v hk hv => RunsTo.pure (qv v hk hv))
      · rename_i x l
        simp only [List.map_toArray, List.map_cons]
        obtain ⟨h1, h2⟩ := minmax_ne true l (ev r x) (fun x => ev r x) hK
        have hm : l.map a.eval = (l.map (ev r)).map (ren ρ) := by
          rw [List.map_map]
          exact List.map_congr_left fun y hy => (val (h2 y hy)).2
        by_cases hxu : ev r x = unk
        · cases l with
          | nil =>
            simp only [List.map_nil, aMax] at hK
            unfold Builtin.max_
            simp only
            exact RunsTo.bind (RunsTo.pure (RunsTo.pure (qx _ _ hK (er x))))
          | cons y l => exact absurd hxu (h1 (by simp))
        · rw [hm, (val hxu).2]
          unfold Builtin.max_
          simp only
          exact RunsTo.bind (minmax_run (n := h.length) true (l.map (ev r)) (ev r x) hK (val hxu).1 fun v hk hv => RunsTo.pure (qv v hk hv))
      · rename_i x y t u
        simp only [List.map_toArray, List.map_cons, List.map_nil]
        split at hK
        · rename_i e e2 hu hu2
          split at hK
          · rename_i z g s i hz ht hi
            obtain ⟨⟨c1, c2, c3, c4⟩, hK⟩ := hK
            have hne : ev r x ≠ unk ∧ ev r y ≠ unk := by
              unfold aApp at hK
              split at hK
              · rename_i h1 h2
                exact ⟨by rw [h1]; simp [unk], by rw [h2]; simp [unk]⟩
              · exact hK.elim
            rw [(val hne.1).2, (val hne.2).2]
            exact RunsTo.bind (sound_append H hu hu2 hz ht hi c1 c2 c3 c4 (val hne.1).1 hK fun v h' ρ' w' hk hv g => RunsTo.pure (qn v h' ρ' w' hk hv g))
          · exact hK.elim
        · rename_i e e2 hu hu2
          split at hK
          · rename_i z g s i hz ht hi
            obtain ⟨⟨c1, c2, c3, c4⟩, hK⟩ := hK
            have hne : ev r x ≠ unk ∧ ev r y ≠ unk := by
              unfold aAppZ at hK
              split at hK
              · rename_i h1 h2
                exact ⟨by rw [h1]; simp [unk], by rw [h2]; simp [unk]⟩
              · exact hK.elim
            rw [(val hne.1).2, (val hne.2).2]
            exact RunsTo.bind (sound_appendZ H hu hu2 hz ht hi c1 c2 c3 c4 hK fun v h' ρ' w' hk hv g => RunsTo.pure (qn v h' ρ' w' hk hv g))
          · exact hK.elim
        · exact hK.elim
      · rename_i x y t u
        simp only [List.map_toArray, List.map_cons, List.map_nil]
        split at hK
        · rename_i e e2 hu hu2
          split at hK
          · rename_i g s ht
            have hne : ev r x ≠ unk ∧ ev r y ≠ unk := by
              have hK := hK.2
              unfold aCopy at hK
              split at hK
              · rename_i h1 h2
                exact ⟨by rw [h1]; simp [unk], by rw [h2]; simp [unk]⟩
              · exact hK.elim
            rw [(val hne.1).2, (val hne.2).2]
            exact RunsTo.bind (sound_copy H hu hu2 ht hK.2 fun v h' w' hk hv g => RunsTo.pure (qn v h' ρ w' hk hv g))
          · exact hK.elim
        · exact hK.elim
      · exact hK.elim
  all_goals exact hK.elim
end
structure RG where
  r : Nat → Value
  ds : List Nat
def RG.p (f : RG) (d : Nat) (v : Value) : RG := ⟨fun t => bif t == d then v else f.r t, f.ds⟩
structure FB where
  fn : FuncId
  kind : CallKind
  ro : Option Nat
  /-- Calls that are to be made behind all else, when the frame is left. -/
  dfs : List Deferred
def FB.tag (b : FB) : Nat :=
  match b.ro with
  | none => b.fn
  | some _ => b.fn + 1000000
def FB.at (b : FB) (a : Act) (todo : List Item) : Frame := { fn := b.fn, tmps := a.tmps, todo, defers := a.defers ++ b.dfs, mode := .run, kind := b.kind, roundOf := b.ro }
structure ActRel (n : Nat) (ρ : Env) (N : Nat) (f : RG) (a : Act) : Prop where
  regs : RegRel n ρ f.r a.tmps
  size : a.tmps.size = N
  defers : a.defers = f.ds.map fun b => { target := .collected (ρ.blk b), args := #[] }
  ok : ∀ b ∈ f.ds, b < n
abbrev JT := Goroutine → World → Foot → Prop
def Heads (jump : Option Code) (todo : List Item) : Prop :=
  (jump = some .ret ∧ ∃ k, todo = .code .ret :: k) ∨ (∃ id k, jump = some (.exit id) ∧ todo = .code (.exit id) :: k ∧ exitTo id k = none) ∨ (jump = none ∧ todo = [])
def LeaveOk (J : JT) (b : FB) (cs : List Frame) (L : Option Code → Act → World → Foot → Prop) : Prop :=
  ∀ jump a w ft todo, L jump a w ft → Heads jump todo → J (G (b.at a todo) cs) w ft
def AfterJ (J : JT) (b : FB) (k : List Item) (cs : List Frame) (L : Option Code → Act → World → Foot → Prop) (e : Exit) (a : Act) (w : World) (ft : Foot) : Prop :=
  match e with
  | .normal => J (G (b.at a k) cs) w ft
  | .exit id => match exitTo id k with
    | some k' => J (G (b.at a k') cs) w ft
    | none => L (some (.exit id)) a w ft
  | .ret => L (some .ret) a w ft
  | _ => False
abbrev QT := Exit → RG → List AObj → Prop
def Cont (J : JT) (N n0 : Nat) (b : FB) (k : List Item) (cs : List Frame) (L : Option Code → Act → World → Foot → Prop) (ρ : Env) (FC : Frm) (Q : QT) : Prop :=
  ∀ e f' h' ρ' w' ft' a', Q e f' h' → ActRel h'.length ρ' N f' a' → HRel ρ' h' FC w' ft' → Env.upto n0 ρ ρ' → n0 ≤ h'.length → AfterJ J b k cs L e a' w' ft'
def Sem (J : JT) (N n0 : Nat) (fn : FuncId) (c : Code) (f : RG) (h : List AObj) (Q : QT) : Prop :=
  ∀ (b : FB) (a : Act) (k : List Item) (cs : List Frame) (L : Option Code → Act → World → Foot → Prop) (ρ : Env) (FC : Frm) (w : World) (ft : Foot), b.tag = fn → b.kind ≠ .early → LeaveOk J b cs L →
    ActRel h.length ρ N f a → HRel ρ h FC w ft → n0 ≤ h.length → Cont J N n0 b k cs L ρ FC Q → J (G (b.at a (.code c :: k)) cs) w ft
def SemOps (J : JT) (N n0 : Nat) (fn : FuncId) (ops : Array Oper) (todo : List Nat) (f : RG) (h : List AObj) (Q : QT) : Prop :=
  ∀ (b : FB) (a : Act) (k : List Item) (cs : List Frame) (L : Option Code → Act → World → Foot → Prop) (ρ : Env) (FC : Frm) (w : World) (ft : Foot), b.tag = fn → b.kind ≠ .early → LeaveOk J b cs L →
    ActRel h.length ρ N f a → HRel ρ h FC w ft → n0 ≤ h.length → Cont J N n0 b k cs L ρ FC Q → J (G (b.at a (.inRegion ops todo :: k)) cs) w ft
def thenK (S : RG → List AObj → Prop) (Q : QT) : QT := fun e f h =>
  match e with
  | .normal => S f h
  | e => Q e f h
def blockK (id : Nat) (Q : QT) : QT := fun e f h =>
  match e with
  | .exit i => bif i == id then Q .normal f h else Q (.exit i) f h
  | e => Q e f h
section
variable {P : Program} {main : Bool} {J : JT} {N n0 : Nat} {fn : FuncId} {Q Q' : QT} {f : RG} {h : List AObj}
theorem Closed.ctrl (hJ : Closed P main J) {g g' : Goroutine} {w : World} {ft : Foot} (hs : g.status = .running) (hs' : g'.status = .running) (hst : ∀ w, stepG P main g w = .go g' w #[]) (h : J g' w ft) : J g w ft :=
  hJ.step hs fun w₁ h₁ => ⟨g', w₁, #[], hst w₁, hs', GuarW.refl _ _, by rw [Foot.ext_self]; exact hJ.rely h h₁⟩
theorem upto_act {n m : Nat} {ρ ρ' : Env} {N : Nat} {f : RG} {a : Act} (hu : Env.upto n ρ ρ') (hn : n ≤ m) (h : ActRel n ρ N f a) : ActRel m ρ' N f a :=
  ⟨h.regs.congr hu hn, h.size, by rw [h.defers]; exact List.map_congr_left fun b hb => by rw [(hu b (h.ok b hb)).1], fun b hb => Nat.lt_of_lt_of_le (h.ok b hb) hn⟩
theorem Sem.mono {c : Code} (hh : Sem J N n0 fn c f h Q) (hq : ∀ e f h, Q e f h → Q' e f h) : Sem J N n0 fn c f h Q' :=
  fun b a k cs L ρ FC w ft h1 h2 h3 h4 h5 h6 hc => hh b a k cs L ρ FC w ft h1 h2 h3 h4 h5 h6 fun e f' h' ρ' w' ft' a' q => hc e f' h' ρ' w' ft' a' (hq _ _ _ q)
theorem Sem_skip (hJ : Closed P main J) (hq : Q .normal f h) : Sem J N n0 fn .skip f h Q := by
  intro b a k cs L ρ FC w ft h1 h2 h3 h4 h5 h6 hc
  refine hJ.ctrl rfl rfl (g' := G (b.at a k) cs) (fun w => by simp [G, stepG, stepG.exec, FB.at]) ?_
  exact hc _ _ _ _ _ _ _ hq h4 h5 (Env.upto_refl _ _) h6
theorem Sem_label (hJ : Closed P main J) {l : Nat} (hq : Q .normal f h) : Sem J N n0 fn (.label l) f h Q := by
  intro b a k cs L ρ FC w ft h1 h2 h3 h4 h5 h6 hc
  refine hJ.ctrl rfl rfl (g' := G (b.at a k) cs) (fun w => by simp [G, stepG, stepG.exec, FB.at]) ?_
  exact hc _ _ _ _ _ _ _ hq h4 h5 (Env.upto_refl _ _) h6
theorem Sem_ret (hq : Q .ret f h) : Sem J N n0 fn .ret f h Q := by
  intro b a k cs L ρ FC w ft h1 h2 h3 h4 h5 h6 hc
  exact h3 _ _ _ _ _ (hc _ _ _ _ _ _ _ hq h4 h5 (Env.upto_refl _ _) h6) (.inl ⟨rfl, _, rfl⟩)
theorem Sem_exit (hJ : Closed P main J) {id : Nat} (hq : Q (.exit id) f h) : Sem J N n0 fn (.exit id) f h Q := by
  intro b a k cs L ρ FC w ft h1 h2 h3 h4 h5 h6 hc
  have := hc _ _ _ _ _ _ _ hq h4 h5 (Env.upto_refl _ _) h6
  unfold AfterJ at this
  simp only at this
  cases he : exitTo id k with
  | some k' =>
    rw [he] at this
    exact hJ.ctrl rfl rfl (g' := G (b.at a k') cs) (fun w => by simp [G, stepG, stepG.exec, FB.at, he]) this
  | none =>
    rw [he] at this
    exact h3 _ _ _ _ _ this (.inr (.inl ⟨id, k, rfl, rfl, he⟩))
theorem AfterJ.push {b : FB} {x : Item} {k : List Item} {cs : List Frame} {L : Option Code → Act → World → Foot → Prop} {e : Exit} {a : Act} {w : World} {ft : Foot} (hx : ∀ id, exitTo id (x :: k) = exitTo id k) (he : e ≠ .normal)
    (h : AfterJ J b k cs L e a w ft) : AfterJ J b (x :: k) cs L e a w ft := by
  cases e with
  | normal => exact absurd rfl he
  | exit id => unfold AfterJ at h ⊢; simp only [hx] at h ⊢; exact h
  | ret => exact h
  | _ => exact h
theorem Sem_seq (hJ : Closed P main J) {x y : Code} (hx : Sem J N n0 fn x f h (thenK (fun f' h' => Sem J N n0 fn y f' h' Q) Q)) : Sem J N n0 fn (.seq x y) f h Q := by
  intro b a k cs L ρ FC w ft h1 h2 h3 h4 h5 h6 hc
  refine hJ.ctrl rfl rfl (g' := G (b.at a (.code x :: .code y :: k)) cs) (fun w => by simp [G, stepG, stepG.exec, FB.at]) ?_
  refine hx b a (.code y :: k) cs L ρ FC w ft h1 h2 h3 h4 h5 h6 fun e f' h' ρ' w' ft' a' q g1 g2 g3 g4 => ?_
  cases e with
  | normal => exact q b a' k cs L ρ' FC w' ft' h1 h2 h3 g1 g2 g4 fun e f2 h2' ρ2 w2 ft2 a2 q2 r1 r2 r3 r4 => hc e f2 h2' ρ2 w2 ft2 a2 q2 r1 r2 (Env.upto_trans g3 r3) r4
  | exit id => exact AfterJ.push (fun _ => rfl) (by simp) (hc _ _ _ _ _ _ _ q g1 g2 g3 g4)
  | ret => exact AfterJ.push (fun _ => rfl) (by simp) (hc _ _ _ _ _ _ _ q g1 g2 g3 g4)
  | goto l => exact hc _ _ _ _ _ _ _ q g1 g2 g3 g4
  | panic l => exact hc _ _ _ _ _ _ _ q g1 g2 g3 g4
  | outgrown => exact hc _ _ _ _ _ _ _ q g1 g2 g3 g4
theorem Sem_cond (hJ : Closed P main J) {c : Operand} {x y : Code} {t : Bool} (ht : ev f.r c = .bool t) (hx : Sem J N n0 fn (if t then x else y) f h Q) : Sem J N n0 fn (.cond c x y) f h Q := by
  intro b a k cs L ρ FC w ft h1 h2 h3 h4 h5 h6 hc
  have hv := ((ev_rel h4.regs c).val (by rw [ht]; simp [unk])).2
  rw [ht] at hv
  simp only [ren] at hv
  have he : ∀ todo, (b.at a todo).eval c = .bool t := fun todo => by rw [← hv]; cases c <;> rfl
  refine hJ.ctrl rfl rfl (g' := G (b.at a (.code (if t then x else y) :: k)) cs) (fun w => ?_) ?_
  · have := he (.code (.cond c x y) :: k)
    simp only [FB.at] at this
    simp [G, stepG, stepG.exec, FB.at, this]
  · exact hx b a k cs L ρ FC w ft h1 h2 h3 h4 h5 h6 hc
theorem Sem_block (hJ : Closed P main J) {id : Nat} {c : Code} (hx : Sem J N n0 fn c f h (blockK id Q)) : Sem J N n0 fn (.block id c) f h Q := by
  intro b a k cs L ρ FC w ft h1 h2 h3 h4 h5 h6 hc
  refine hJ.ctrl rfl rfl (g' := G (b.at a (.code c :: .inBlock id :: k)) cs) (fun w => by simp [G, stepG, stepG.exec, FB.at]) ?_
  refine hx b a (.inBlock id :: k) cs L ρ FC w ft h1 h2 h3 h4 h5 h6 fun e f' h' ρ' w' ft' a' q g1 g2 g3 g4 => ?_
  have step : J (G (b.at a' k) cs) w' ft' → J (G (b.at a' (.inBlock id :: k)) cs) w' ft' := fun hh => hJ.ctrl rfl rfl (fun w => by simp [G, stepG, stepG.exec, FB.at]) hh
  cases e with
  | normal => exact step (hc .normal _ _ _ _ _ _ q g1 g2 g3 g4)
  | exit i =>
    unfold blockK at q
    simp only at q
    unfold AfterJ
    simp only [exitTo]
    cases hi : i == id with
    | true =>
      rw [hi] at q
      have hi' : (id == i) = true := by simp at hi ⊢; omega
      rw [hi']
      exact hc .normal _ _ _ _ _ _ q g1 g2 g3 g4
    | false =>
      rw [hi] at q
      have hi' : (id == i) = false := by simp at hi ⊢; omega
      rw [hi']
      exact hc (.exit i) _ _ _ _ _ _ q g1 g2 g3 g4
  | ret => exact hc .ret _ _ _ _ _ _ q g1 g2 g3 g4
  | goto l => exact hc _ _ _ _ _ _ _ q g1 g2 g3 g4
  | panic l => exact hc _ _ _ _ _ _ _ q g1 g2 g3 g4
  | outgrown => exact hc _ _ _ _ _ _ _ q g1 g2 g3 g4
theorem Sem_scope (hJ : Closed P main J) {c : Code} (hx : Sem J N n0 fn c f h Q) : Sem J N n0 fn (.scope c) f h Q := by
  intro b a k cs L ρ FC w ft h1 h2 h3 h4 h5 h6 hc
  refine hJ.ctrl rfl rfl (g' := G (b.at a (.code c :: .inScope c :: k)) cs) (fun w => by simp [G, stepG, stepG.exec, FB.at]) ?_
  refine hx b a (.inScope c :: k) cs L ρ FC w ft h1 h2 h3 h4 h5 h6 fun e f' h' ρ' w' ft' a' q g1 g2 g3 g4 => ?_
  have hh := hc _ _ _ _ _ _ _ q g1 g2 g3 g4
  cases e with
  | normal => exact hJ.ctrl rfl rfl (g' := G (b.at a' k) cs) (fun w => by simp [G, stepG, stepG.exec, FB.at]) hh
  | exit id => exact AfterJ.push (fun _ => rfl) (by simp) hh
  | ret => exact hh
  | _ => exact hh
theorem Sem_region (hJ : Closed P main J) {id : Nat} {ops : Array Oper} (hx : SemOps J N n0 fn ops (List.range ops.size) f h Q) : Sem J N n0 fn (.region id ops false) f h Q := by
  intro b a k cs L ρ FC w ft h1 h2 h3 h4 h5 h6 hc
  refine hJ.ctrl rfl rfl (g' := G (b.at a (.inRegion ops (List.range ops.size) :: k)) cs) (fun w => by simp [G, stepG, stepG.exec, FB.at]) ?_
  exact hx b a k cs L ρ FC w ft h1 h2 h3 h4 h5 h6 hc
theorem SemOps_nil (hJ : Closed P main J) {ops : Array Oper} (hq : Q .normal f h) : SemOps J N n0 fn ops [] f h Q := by
  intro b a k cs L ρ FC w ft h1 h2 h3 h4 h5 h6 hc
  refine hJ.ctrl rfl rfl (g' := G (b.at a k) cs) (fun w => by simp [G, stepG, stepG.exec, FB.at]) ?_
  exact hc _ _ _ _ _ _ _ hq h4 h5 (Env.upto_refl _ _) h6
end
theorem FB.eval_at (b : FB) (a : Act) (todo : List Item) : (b.at a todo).eval = a.eval := funext fun x => by cases x <;> rfl
theorem FB.finish_at (b : FB) (a : Act) (ops : Array Oper) (i : Nat) (rest : List Nat) (k : List Item) (v : Value) :
    (b.at a (.inRegion ops (i :: rest) :: k)).finish v = b.at (a.put ((ops[i]?).bind (·.dst)) v) (.inRegion ops rest :: k) := by
  cases h : (ops[i]?).bind (·.dst) <;> simp [Frame.finish, FB.at, Act.put, h]
def RG.putO (f : RG) (d : Option Nat) (v : Value) : RG :=
  match d with
  | some d => f.p d v
  | none => f
def gd (ops : Array Oper) (o : Oper) (r : Nat → Value) : Option Bool :=
  match o.guard with
  | none => some true
  | some (j, want) => match (ops[j]?).bind (·.dst) with
    | some t => match r t with
      | .bool b => some (b == want)
      | .tuple ⟨[]⟩ => some false
      | _ => none
    | none => none
def callable (P : Program) (g : FuncId) : Bool :=
  match P.funcs[g]? with
  | some fn => fn.body.isSome && !(fn.name == "runtime.NumGoroutine")
  | none => false
def yid (P : Program) (l : Nat) : Nat := P.funcs.size + l
def loopAt (h : List AObj) (l n : Nat) : Prop := ∃ st pend fn r size params assign body dfr, h[l]? = some (.loop st pend fn r size params assign body dfr) ∧ params.size = n
def okCall (P : Program) (g n : Nat) (h : List AObj) : Prop := (g < P.funcs.size ∧ callable P g = true) ∨ (P.funcs.size ≤ g ∧ loopAt h (g - P.funcs.size) n)
def Entry (P : Program) (g : Nat) (ρ : Env) (w : World) (cargs : List Value) (fr : Frame) : Prop :=
  (g < P.funcs.size ∧ fr = Frame.enter P g ⟨cargs⟩ .normal) ∨ (P.funcs.size ≤ g ∧ ∃ lo : Loop, w.heap[ρ.blk (g - P.funcs.size)]? = some (.loop lo) ∧ lo.params.size = cargs.length ∧
    fr = Frame.round (ρ.blk (g - P.funcs.size)) lo.fn ((lo.params.zip ⟨cargs⟩).foldl (fun tmps (t, a) => tmps.setIfInBounds t a) lo.tmps) lo.assign lo.body .normal)
def GoodF (P : Program) (J : JT) (g : FuncId) (args : List Value) (h : List AObj) (K : Value → List AObj → Prop) : Prop :=
  okCall P g args.length h ∧ ∀ (ρ : Env) (FC : Frm) (w : World) (ft : Foot) (cs : List Frame) (c : Frame) (cargs : List Value) (fr : Frame), HRel ρ h FC w ft →
    (∀ i : Nat, VRel h.length ρ (args.getD i unk) (cargs.getD i undef)) → cargs.length = args.length → Entry P g ρ w cargs fr →
    (∀ v h' ρ' w' ft' cv, K v h' → HRel ρ' h' FC w' ft' → Env.upto h.length ρ ρ' → h.length ≤ h'.length → VRel h'.length ρ' v cv → J (G (c.finish cv) cs) w' ft') →
    J (G fr (c :: cs)) w ft
structure Site (g : FuncId) (cargs : List Value) (b : FB) (a : Act) (ops : Array Oper) (i : Nat) (o : Oper) : Prop where
  kind : b.kind ≠ .early
  here : ops[i]? = some o
  wanted : Region.wanted o (yielded ops a.tmps) = true
  nodef : ∀ c, o.op ≠ .defer c
  calls : execOp a.eval o = callFunc g ⟨cargs⟩
def ExtJ (J : JT) (g : FuncId) (args : List Value) (h : List AObj) (K : Value → List AObj → Prop) : Prop :=
  ∀ (b : FB) (a : Act) (ops : Array Oper) (i : Nat) (rest : List Nat) (o : Oper) (k : List Item) (cs : List Frame) (ρ : Env) (FC : Frm) (w : World) (ft : Foot) (cargs : List Value), Site g cargs b a ops i o → HRel ρ h FC w ft →
    (∀ i : Nat, VRel h.length ρ (args.getD i unk) (cargs.getD i undef)) → cargs.length = args.length →
    (∀ v h' ρ' w' ft' cv, K v h' → HRel ρ' h' FC w' ft' → Env.upto h.length ρ ρ' → h.length ≤ h'.length → VRel h'.length ρ' v cv → J (G (b.at (a.put o.dst cv) (.inRegion ops rest :: k)) cs) w' ft') →
    J (G (b.at a (.inRegion ops (i :: rest) :: k)) cs) w ft
def Good (P : Program) (J : JT) (g : FuncId) (args : List Value) (h : List AObj) (K : Value → List AObj → Prop) : Prop :=
  GoodF P J g args h K ∨ ((g < P.funcs.size ∧ callable P g = false) ∧ ExtJ J g args h K)
def callV (P : Program) (C : FuncId → List Value → List AObj → (Value → List AObj → Prop) → Prop) (v : Value) (args : List Value) (h : List AObj) (K : Value → List AObj → Prop) : Prop :=
  match v with
  | .func (.func g) ⟨first⟩ ⟨cap⟩ => bif Nat.blt g P.funcs.size then C g (first ++ args ++ cap) h K else False
  | .func (.yield l) ⟨[]⟩ ⟨[]⟩ => C (yid P l) args h K
  | _ => False
def opW (P : Program) (C : FuncId → List Value → List AObj → (Value → List AObj → Prop) → Prop) (o : Oper) (r : Nat → Value) (h : List AObj) (K : Value → List AObj → Prop) : Prop :=
  match o.op with
  | .call { callee := .value x, args, .. } => callV P C (ev r x) (args.toList.map (ev r)) h K
  | op => aop P op r h K
section
variable {P : Program} {main : Bool} {J : JT} {N : Nat} {b : FB} {f : RG} {h : List AObj} {a : Act} {k : List Item} {cs : List Frame} {ρ : Env} {FC : Frm} {w : World} {ft : Foot} {ops : Array Oper} {i : Nat} {rest : List Nat} {o : Oper}
theorem regs_put {n : Nat} {r : Nat → Value} {tmps : Array Value} {d : Nat} {v c : Value} (hr : RegRel n ρ r tmps) (hd : d < tmps.size) (hv : VRel n ρ v c) : RegRel n ρ (fun t => bif t == d then v else r t) (tmps.setIfInBounds d c) := by
  intro t
  by_cases e : t = d
  · subst e
    simp only [BEq.rfl, cond_true]
    rcases hv with rfl | ⟨h1, h2⟩
    · exact .inl rfl
    · refine .inr ⟨h1, ?_⟩
      simp [Array.getD, hd, h2]
  · have : (t == d) = false := by simpa using e
    simp only [this, cond_false]
    rcases hr t with h | ⟨h1, h2⟩
    · exact .inl h
    · refine .inr ⟨h1, ?_⟩
      rw [← h2]
      simp only [Array.getD_eq_getD_getElem?, Array.getElem?_setIfInBounds]
      rw [if_neg (fun x => e x.symm)]
theorem act_put {n : Nat} {d : Option Nat} {v c : Value} (A : ActRel n ρ N f a) (hd : ∀ t, d = some t → t < N) (hv : VRel n ρ v c) : ActRel n ρ N (f.putO d v) (a.put d c) := by
  cases d with
  | none => exact A
  | some t => exact ⟨regs_put A.regs (by rw [A.size]; exact hd t rfl) hv, by simp [Act.put, A.size], A.defers, A.ok⟩
theorem gd_wanted {n : Nat} {t : Bool} (A : ActRel n ρ N f a) (hg : gd ops o f.r = some t) : Region.wanted o (yielded ops a.tmps) = t := by
  unfold gd at hg
  unfold Region.wanted
  split at hg
  · rename_i e
    rw [e]
    cases hg
    rfl
  · rename_i j want e
    rw [e]
    simp only
    split at hg
    · rename_i u hu
      split at hg
      · rename_i bb hb
        cases hg
        have hv := (A.regs u).resolve_left (by rw [hb]; simp [unk])
        rw [hb] at hv
        have h2 : a.tmps[u]? = some (.bool bb) := by
          have := hv.2
          simp only [ren] at this
          rw [Array.getD_eq_getD_getElem?] at this
          cases hx : a.tmps[u]? with
          | none => rw [hx] at this; simp [undef] at this
          | some x => rw [hx] at this; simpa using this
        unfold yielded
        rw [hu]
        simp only [Option.bind_some, h2]
        cases bb <;> cases want <;> rfl
      · rename_i hb
        cases hg
        have hv := (A.regs u).resolve_left (by rw [hb]; simp [unk])
        rw [hb] at hv
        have h2 := hv.2
        simp only [ren, renA, renL] at h2
        unfold yielded
        rw [hu]
        simp only [Option.bind_some]
        rw [Array.getD_eq_getD_getElem?] at h2
        cases hx : a.tmps[u]? with
        | none => rfl
        | some x =>
          rw [hx] at h2
          simp only [Option.getD_some] at h2
          subst h2
          rfl
      · cases hg
    · cases hg
theorem stepG_op (ho : ops[i]? = some o) (hw : Region.wanted o (yielded ops a.tmps) = true) (hnd : ∀ c, o.op ≠ .defer c) (main : Bool) (w : World) :
    stepG P main (G (b.at a (.inRegion ops (i :: rest) :: k)) cs) w = stepG.apply P true (b.at a (.inRegion ops (i :: rest) :: k)) cs none (execOp a.eval o) w := by
  have he := FB.eval_at b a (.inRegion ops (i :: rest) :: k)
  simp only [FB.at] at he
  simp only [G, stepG, stepG.exec, stepG.oper, Frame.oper?, FB.at, ho, hw, he, Option.map_some, Option.getD_some, if_true]
  split
  · rename_i l c h1 h2
    exact absurd h2 (hnd c)
  · rfl
theorem step_skip (hJ : Closed P main J) (ho : ops[i]? = some o) (hg : gd ops o f.r = some false) (A : ActRel h.length ρ N f a) (hJ' : J (G (b.at (a.put o.dst undef) (.inRegion ops rest :: k)) cs) w ft) :
    J (G (b.at a (.inRegion ops (i :: rest) :: k)) cs) w ft := by
  have hw := gd_wanted A hg
  refine hJ.ctrl rfl rfl (g' := G (b.at (a.put o.dst undef) (.inRegion ops rest :: k)) cs) (fun w => ?_) hJ'
  have hf := FB.finish_at b a ops i rest k undef
  rw [ho] at hf
  simp only [Option.bind_some] at hf
  rw [← hf]
  simp [G, stepG, stepG.exec, FB.at, ho, hw]
theorem step_op (hJ : Closed P main J) (hk : b.kind ≠ .early) (ho : ops[i]? = some o) (hg : gd ops o f.r = some true) (hd : ∀ t, o.dst = some t → t < N) (A : ActRel h.length ρ N f a) (H : HRel ρ h FC w ft) {K : Value → List AObj → Prop} (hop : aop P o.op f.r h K)
    (hc : ∀ v h' ρ' w' ft' a', K v h' → ActRel h'.length ρ' N (f.putO o.dst v) a' → HRel ρ' h' FC w' ft' → Env.upto h.length ρ ρ' → h.length ≤ h'.length → J (G (b.at a' (.inRegion ops rest :: k)) cs) w' ft') :
    J (G (b.at a (.inRegion ops (i :: rest) :: k)) cs) w ft := by
  have hw := gd_wanted A hg
  have hnd : ∀ c, o.op ≠ .defer c := fun c e => by rw [e] at hop; exact hop
  have hk' : (b.kind == CallKind.early) = false := by simpa using hk
  refine hJ.step rfl fun w₁ h₁ => ?_
  have H₁ := H.rely h₁
  obtain ⟨nx, w', es, hr, he, v, h', ρ', hK, g, hn⟩ := aop_sound H₁ A.regs o hop (Q := fun nx w' => ∃ v h' ρ', K v h' ∧ Goes1 ρ h FC w₁ ft ρ' h' w' ∧ NxRel h'.length ρ' v nx)
    (fun v h' ρ' w' nx hK g hn => ⟨v, h', ρ', hK, g, hn⟩) #[] (by simp)
  have hes : ∀ e ∈ seen P b.fn es, EvOk ft e := fun e hm => he e (mem_seen hm)
  have hf := FB.finish_at b a ops i rest k
  rw [ho] at hf
  simp only [Option.bind_some] at hf
  have A' := upto_act g.upto g.len A
  rcases hn with ⟨rfl, rfl⟩ | ⟨c, rfl, hv⟩
  · refine ⟨G (b.at (a.put o.dst undef) (.inRegion ops rest :: k)) cs, w', seen P b.fn es, ?_, rfl, g.stays.guar hes, ?_⟩
    · rw [stepG_op ho hw hnd, ← hf]
      simp only [stepG.apply, hr, if_true]
      simp [G, FB.at, hk', GStep.after]
    · exact hc _ _ _ _ _ _ hK (act_put A' hd (.inl rfl)) g.rel g.upto g.len
  · refine ⟨G (b.at (a.put o.dst c) (.inRegion ops rest :: k)) cs, w', seen P b.fn es, ?_, rfl, g.stays.guar hes, ?_⟩
    · rw [stepG_op ho hw hnd, ← hf]
      simp only [stepG.apply, hr, if_true]
      simp [G, FB.at, hk', GStep.after]
    · exact hc _ _ _ _ _ _ hK (act_put A' hd hv) g.rel g.upto g.len
theorem callFunc_run {X : Event → Prop} {g : FuncId} {args : Array Value} (hg : callable P g = true) {Q : Next → World → Prop} (hQ : Q (.enter g args) w) : RunsTo P X (callFunc g args) w Q := by
  unfold callable at hg
  split at hg
  · rename_i fn hf
    simp only [Bool.and_eq_true, Bool.not_eq_true'] at hg
    unfold callFunc
    refine RunsTo.bind (RunsTo.program ?_)
    simp only [hf, hg.2]
    have : fn.body.isNone = false := by cases h : fn.body <;> simp_all
    simp only [this]
    exact RunsTo.pure hQ
  · cases hg
theorem getD_app {x y x' y' : List Value} (hl : x.length = x'.length) {n : Nat} (h1 : ∀ i : Nat, VRel n ρ (x.getD i unk) (x'.getD i undef)) (h2 : ∀ i : Nat, VRel n ρ (y.getD i unk) (y'.getD i undef)) (i : Nat) :
    VRel n ρ ((x ++ y).getD i unk) ((x' ++ y').getD i undef) := by
  by_cases e : i < x.length
  · have := h1 i
    simp only [List.getD_eq_getElem?_getD] at this ⊢
    rw [List.getElem?_append_left e, List.getElem?_append_left (by omega)]
    exact this
  · have := h2 (i - x.length)
    simp only [List.getD_eq_getElem?_getD] at this ⊢
    rw [List.getElem?_append_right (by omega), List.getElem?_append_right (by omega), ← hl]
    exact this
theorem getD_ren {n : Nat} {l : List Value} (h : LOk n l) (i : Nat) : VRel n ρ (l.getD i unk) ((l.map (ren ρ)).getD i undef) := by
  simp only [List.getD_eq_getElem?_getD, List.getElem?_map]
  cases hx : l[i]? with
  | none => exact .inl rfl
  | some v => exact .inr ⟨(LOk_iff l).1 h v (List.mem_of_getElem? hx), rfl⟩
theorem getD_ev {n : Nat} (hr : RegRel n ρ f.r a.tmps) (l : List Operand) (i : Nat) : VRel n ρ ((l.map (ev f.r)).getD i unk) ((l.map a.eval).getD i undef) := by
  simp only [List.getD_eq_getElem?_getD, List.getElem?_map]
  cases hx : l[i]? with
  | none => exact .inl rfl
  | some v => exact ev_rel hr v
theorem step_enter (hJ : Closed P main J) (hk : b.kind ≠ .early) (ho : ops[i]? = some o) (hg : gd ops o f.r = some true) (A : ActRel h.length ρ N f a)
    {x : Operand} {args : Array Operand} {ats : Array TypeId} (hop : o.op = .call { callee := .value x, args := args, argTypes := ats }) {g : FuncId} {first cap : List Value} (hx : ev f.r x = .func (.func g) ⟨first⟩ ⟨cap⟩) (hcl : callable P g = true)
    (hc : ∀ cargs, (∀ i : Nat, VRel h.length ρ ((first ++ args.toList.map (ev f.r) ++ cap).getD i unk) (cargs.getD i undef)) → cargs.length = (first ++ args.toList.map (ev f.r) ++ cap).length →
      J (G (Frame.enter P g ⟨cargs⟩ .normal) (b.at a (.inRegion ops (i :: rest) :: k) :: cs)) w ft) :
    J (G (b.at a (.inRegion ops (i :: rest) :: k)) cs) w ft := by
  have hw := gd_wanted A hg
  have hnd : ∀ c, o.op ≠ .defer c := fun c e => by rw [hop] at e; cases e
  have hk' : (b.kind == CallKind.early) = false := by simpa using hk
  obtain ⟨hok, hv⟩ := (ev_rel A.regs x).val (by rw [hx]; simp [unk])
  rw [hx] at hv hok
  simp only [ren, renFn, renA, renL_eq] at hv
  simp only [VOk, AOk] at hok
  have hrel : ∀ i : Nat, VRel h.length ρ ((first ++ args.toList.map (ev f.r) ++ cap).getD i unk) ((first.map (ren ρ) ++ args.toList.map a.eval ++ cap.map (ren ρ)).getD i undef) :=
    getD_app (by simp) (getD_app (by simp) (getD_ren hok.2.1) (getD_ev A.regs _)) (getD_ren hok.2.2)
  refine hJ.step rfl fun w₁ h₁ => ?_
  have hrun : RunsTo P (EvOk ft) (execOp a.eval o) w₁ fun nx w' => nx = .enter g ⟨first.map (ren ρ) ++ args.toList.map a.eval ++ cap.map (ren ρ)⟩ ∧ w' = w₁ := by
    unfold execOp
    rw [hop]
    simp only
    unfold resolve
    simp only [hv, Deferred.ofValue]
    refine RunsTo.bind (RunsTo.pure ?_)
    unfold invoke
    simp only
    refine callFunc_run hcl ⟨?_, rfl⟩
    congr 1
    apply Array.ext'
    simp
  obtain ⟨nx, w', es, hr, he, rfl, rfl⟩ := hrun #[] (by simp)
  have hes : ∀ e ∈ seen P b.fn es, EvOk ft e := fun e hm => he e (mem_seen hm)
  refine ⟨G (Frame.enter P g ⟨first.map (ren ρ) ++ args.toList.map a.eval ++ cap.map (ren ρ)⟩ .normal) (b.at a (.inRegion ops (i :: rest) :: k) :: cs), w', seen P b.fn es, ?_, rfl, (Stays.refl ft w').guar hes, ?_⟩
  · rw [stepG_op ho hw hnd]
    simp only [stepG.apply, hr, if_true]
    simp [FB.at, hk', GStep.after, G]
  · rw [Foot.ext_self]
    exact hJ.rely (hc _ hrel (by simp)) h₁
theorem step_round (hJ : Closed P main J) (hk : b.kind ≠ .early) (ho : ops[i]? = some o) (hg : gd ops o f.r = some true) (A : ActRel h.length ρ N f a) (H : HRel ρ h FC w ft)
    {x : Operand} {args : Array Operand} {ats : Array TypeId} (hop : o.op = .call { callee := .value x, args := args, argTypes := ats }) {l : Nat} (hx : ev f.r x = .func (.yield l) ⟨[]⟩ ⟨[]⟩) (hcl : loopAt h l args.size)
    (hc : ∀ w₁ cargs lo, RelyW ft w w₁ → (∀ i : Nat, VRel h.length ρ ((args.toList.map (ev f.r)).getD i unk) (cargs.getD i undef)) → cargs.length = args.size → w₁.heap[ρ.blk l]? = some (.loop lo) → lo.params.size = cargs.length →
      J (G (Frame.round (ρ.blk l) lo.fn ((lo.params.zip ⟨cargs⟩).foldl (fun tmps (t, a) => tmps.setIfInBounds t a) lo.tmps) lo.assign lo.body .normal) (b.at a (.inRegion ops (i :: rest) :: k) :: cs)) w₁ ft) :
    J (G (b.at a (.inRegion ops (i :: rest) :: k)) cs) w ft := by
  have hw := gd_wanted A hg
  have hnd : ∀ c, o.op ≠ .defer c := fun c e => by rw [hop] at e; cases e
  have hk' : (b.kind == CallKind.early) = false := by simpa using hk
  obtain ⟨hok, hv⟩ := (ev_rel A.regs x).val (by rw [hx]; simp [unk])
  rw [hx] at hv hok
  simp only [ren, renFn, renA, renL] at hv
  obtain ⟨st, pend, fn, r, size, params, assign, body, dfr, hl, hps⟩ := hcl
  refine hJ.step rfl fun w₁ h₁ => ?_
  have H₁ := H.rely h₁
  have hobj := H₁.obj l _ hl
  have hrd := H₁.rd l _ hl rfl
  match hlo : w₁.heap[ρ.blk l]?, hobj with
  | some (.loop lo), hobj =>
    obtain ⟨_, _, _, _, _, hpar, _⟩ := hobj
    have hsz : lo.params.size = (args.toList.map a.eval).length := by rw [hpar, hps]; simp
    have hrun : RunsTo P (EvOk ft) (execOp a.eval o) w₁ fun nx w' => nx = .round (ρ.blk l) lo.fn ((lo.params.zip ⟨args.toList.map a.eval⟩).foldl (fun tmps (t, a) => tmps.setIfInBounds t a) lo.tmps) lo.assign lo.body ∧ w' = w₁ := by
      unfold execOp
      rw [hop]
      simp only
      unfold resolve
      simp only [hv, Deferred.ofValue]
      refine RunsTo.bind (RunsTo.pure ?_)
      unfold invoke
      simp only
      unfold Instr.yield Instr.getLoop
      have he : (#[] ++ args.map a.eval : Array Value) = ⟨args.toList.map a.eval⟩ := by
        apply Array.ext'
        simp
      rw [he]
      refine RunsTo.bind (RunsTo.bind (RunsTo.getObj hlo (fun _ _ _ e => by cases e) ⟨rfl, hrd, fun e => by cases e⟩ (RunsTo.pure ?_)))
      have hne : ¬ ((⟨args.toList.map a.eval⟩ : Array Value).size ≠ lo.params.size) := by
        rw [hsz]
        simp
      simp only [if_neg hne]
      exact RunsTo.bind (RunsTo.pure (RunsTo.pure ⟨rfl, rfl⟩))
    obtain ⟨nx, w', es, hr, he, rfl, rfl⟩ := hrun #[] (by simp)
    have hes : ∀ e ∈ seen P b.fn es, EvOk ft e := fun e hm => he e (mem_seen hm)
    refine ⟨G (Frame.round (ρ.blk l) lo.fn ((lo.params.zip ⟨args.toList.map a.eval⟩).foldl (fun tmps (t, a) => tmps.setIfInBounds t a) lo.tmps) lo.assign lo.body .normal) (b.at a (.inRegion ops (i :: rest) :: k) :: cs), w', seen P b.fn es, ?_, rfl, (Stays.refl ft w').guar hes, ?_⟩
    · rw [stepG_op ho hw hnd]
      simp only [stepG.apply, hr, if_true]
      simp [FB.at, hk', GStep.after, G]
    · rw [Foot.ext_self]
      exact hc w' _ lo h₁ (getD_ev A.regs _) (by simp) hlo hsz
theorem step_any (hJ : Closed P main J) (hk : b.kind ≠ .early) (ho : ops[i]? = some o) (hg : gd ops o f.r = some true) (hd : ∀ t, o.dst = some t → t < N) (A : ActRel h.length ρ N f a) (H : HRel ρ h FC w ft) {K : Value → List AObj → Prop} (hop : opW P (Good P J) o f.r h K)
    (hc : ∀ v h' ρ' w' ft' a', K v h' → ActRel h'.length ρ' N (f.putO o.dst v) a' → HRel ρ' h' FC w' ft' → Env.upto h.length ρ ρ' → h.length ≤ h'.length → J (G (b.at a' (.inRegion ops rest :: k)) cs) w' ft') :
    J (G (b.at a (.inRegion ops (i :: rest) :: k)) cs) w ft := by
  unfold opW at hop
  split at hop
  · rename_i x args ats hopp
    unfold callV at hop
    split at hop
    · rename_i g first cap hx
      cases hlt : Nat.blt g P.funcs.size with
      | false => rw [hlt] at hop; exact hop.elim
      | true =>
        rw [hlt, cond_true] at hop
        have hlt' : g < P.funcs.size := by rw [← Nat.blt_eq]; exact hlt
        rcases hop with hop | ⟨_, hop⟩
        rotate_left
        · obtain ⟨hok, hv⟩ := (ev_rel A.regs x).val (by rw [hx]; simp [unk])
          rw [hx] at hv hok
          simp only [ren, renFn, renA, renL_eq] at hv
          simp only [VOk, AOk] at hok
          have hrel : ∀ i : Nat, VRel h.length ρ ((first ++ args.toList.map (ev f.r) ++ cap).getD i unk) ((first.map (ren ρ) ++ args.toList.map a.eval ++ cap.map (ren ρ)).getD i undef) :=
            getD_app (by simp) (getD_app (by simp) (getD_ren hok.2.1) (getD_ev A.regs _)) (getD_ren hok.2.2)
          refine hop b a ops i rest o k cs ρ FC w ft (first.map (ren ρ) ++ args.toList.map a.eval ++ cap.map (ren ρ)) ⟨hk, ho, gd_wanted A hg, fun c e => (by rw [hopp] at e; cases e), ?_⟩ H hrel (by simp) fun v h' ρ' w' ft' cv hK H' hu hl hv => hc v h' ρ' w' ft' _ hK (act_put (upto_act hu hl A) hd hv) H' hu hl
          unfold execOp
          rw [hopp]
          simp only
          unfold resolve
          simp only [hv, Deferred.ofValue, pure_bind]
          unfold invoke
          simp only
          congr 1
          apply Array.ext'
          simp
        rcases hop.1 with ⟨_, hcl⟩ | ⟨hge, _⟩
        · refine step_enter hJ hk ho hg A hopp hx hcl fun cargs h1 h2 => ?_
          refine hop.2 ρ FC w ft cs _ cargs _ H h1 h2 (.inl ⟨hlt', rfl⟩) fun v h' ρ' w' ft' cv hK H' hu hl hv => ?_
          have hf := FB.finish_at b a ops i rest k cv
          rw [ho] at hf
          rw [hf]
          exact hc v h' ρ' w' ft' _ hK (act_put (upto_act hu hl A) hd hv) H' hu hl
        · exact absurd hlt' (Nat.not_lt.2 hge)
    · rename_i l hx
      have hge : P.funcs.size ≤ yid P l := Nat.le_add_right _ _
      have hll : yid P l - P.funcs.size = l := by simp [yid]
      rcases hop with hop | ⟨⟨hlt, _⟩, _⟩
      rotate_left
      · exact absurd hlt (Nat.not_lt.2 hge)
      rcases hop.1 with ⟨hlt, _⟩ | ⟨_, hcl⟩
      · omega
      · rw [hll] at hcl
        refine step_round hJ hk ho hg A H hopp hx (by simpa using hcl) fun w₁ cargs lo hr h1 h2 h3 h4 => ?_
        refine hop.2 ρ FC w₁ ft cs _ cargs _ (H.rely hr) h1 (by simpa using h2) (.inr ⟨hge, lo, by rw [hll]; exact h3, h4, by rw [hll]⟩) fun v h' ρ' w' ft' cv hK H' hu hl hv => ?_
        have hf := FB.finish_at b a ops i rest k cv
        rw [ho] at hf
        rw [hf]
        exact hc v h' ρ' w' ft' _ hK (act_put (upto_act hu hl A) hd hv) H' hu hl
    · exact hop.elim
  · exact step_op hJ hk ho hg hd A H hop hc
end
def subFn (σ : Nat → Nat) : Fn → Fn
  | .yield l => .yield (σ l)
  | f => f
mutual
/-- Block numbers replaced. -/
def sub (σ : Nat → Nat) : Value → Value
  | .pointer (some a) => .pointer (some ⟨σ a.block, a.off, a.spot⟩)
  | .slice (some a) n c => .slice (some ⟨σ a.block, a.off, a.spot⟩) n c
  | .map (some r) => .map (some (σ r))
  | .chan (some r) => .chan (some (σ r))
  | .func fn first cap => .func (subFn σ fn) (subA σ first) (subA σ cap)
  | .iface t v => .iface t (sub σ v)
  | .agg cs => .agg (subA σ cs)
  | .tuple vs => .tuple (subA σ vs)
  | .bool b => .bool b
  | .int k n => .int k n
  | .float k n => .float k n
  | .complex k a b => .complex k a b
  | .string s => .string s
  | .pointer none => .pointer none
  | .slice none n c => .slice none n c
  | .map none => .map none
  | .chan none => .chan none
  | .nilFunc => .nilFunc
  | .nilIface => .nilIface
def subA (σ : Nat → Nat) : Array Value → Array Value
  | ⟨l⟩ => ⟨subL σ l⟩
def subL (σ : Nat → Nat) : List Value → List Value
  | [] => []
  | v :: l => sub σ v :: subL σ l
end
def Env.comp (ρ : Env) (σ : Nat → Nat) : Env := ⟨fun b => ρ.blk (σ b), fun b => ρ.cap (σ b)⟩
section
variable {ρ : Env} {σ : Nat → Nat} {n m : Nat}
theorem subL_eq (l : List Value) : subL σ l = l.map (sub σ) := by
  induction l with
  | nil => simp [subL]
  | cons v l ih => simp [subL, ih]
mutual
theorem ren_sub : ∀ v : Value, ren ρ (sub σ v) = ren (ρ.comp σ) v
  | .pointer (some a) => by simp [sub, ren, renAddr, Env.comp]
  | .slice (some a) _ _ => by simp [sub, ren, renAddr, renCap, Env.comp]
  | .map (some r) => by simp [sub, ren, Env.comp]
  | .chan (some r) => by simp [sub, ren, Env.comp]
  | .func fn first cap => by
    have hf : renFn ρ (subFn σ fn) = renFn (ρ.comp σ) fn := by cases fn <;> simp [renFn, subFn, Env.comp]
    simp only [sub, ren, hf, renA_sub first, renA_sub cap]
  | .iface _ v => by simp only [sub, ren, ren_sub v]
  | .agg cs => by simp only [sub, ren, renA_sub cs]
  | .tuple vs => by simp only [sub, ren, renA_sub vs]
  | .bool _ | .int _ _ | .float _ _ | .complex _ _ _ | .string _ | .pointer none | .slice none _ _ | .map none | .chan none | .nilFunc | .nilIface => by simp only [sub, ren]
theorem renA_sub : ∀ a : Array Value, renA ρ (subA σ a) = renA (ρ.comp σ) a
  | ⟨l⟩ => by simp only [subA, renA, renL_sub l]
theorem renL_sub : ∀ l : List Value, renL ρ (subL σ l) = renL (ρ.comp σ) l
  | [] => by simp only [subL, renL]
  | v :: l => by simp only [subL, renL, ren_sub v, renL_sub l]
end
def Same (n : Nat) (σ : Nat → Nat) : Prop := ∀ b, b < n → σ b = b
mutual
theorem sub_same (h : Same n σ) : ∀ v : Value, VOk n v → sub σ v = v
  | .pointer (some a), hv => by simp only [VOk, AddrOk] at hv; simp [sub, h _ hv.1]
  | .slice (some a) _ _, hv => by simp only [VOk, AddrOk] at hv; simp [sub, h _ hv.1]
  | .map (some r), hv => by simp only [VOk] at hv; simp [sub, h _ hv]
  | .chan (some r), hv => by simp only [VOk] at hv; simp [sub, h _ hv]
  | .func fn first cap, hv => by
    simp only [VOk] at hv
    have hf : subFn σ fn = fn := by
      cases fn <;> simp only [subFn]
      have := hv.1
      simp only [FnOk] at this
      rw [h _ this]
    simp only [sub, hf, subA_same h first hv.2.1, subA_same h cap hv.2.2]
  | .iface _ v, hv => by simp only [VOk] at hv; simp only [sub, sub_same h v hv]
  | .agg cs, hv => by simp only [VOk] at hv; simp only [sub, subA_same h cs hv]
  | .tuple vs, hv => by simp only [VOk] at hv; simp only [sub, subA_same h vs hv]
  | .bool _, _ | .int _ _, _ | .float _ _, _ | .complex _ _ _, _ | .string _, _ | .pointer none, _ | .slice none _ _, _ | .map none, _ | .chan none, _ | .nilFunc, _ | .nilIface, _ => by simp only [sub]
theorem subA_same (h : Same n σ) : ∀ a : Array Value, AOk n a → subA σ a = a
  | ⟨l⟩, hv => by simp only [AOk] at hv; simp only [subA, subL_same h l hv]
theorem subL_same (h : Same n σ) : ∀ l : List Value, LOk n l → subL σ l = l
  | [], _ => by simp only [subL]
  | v :: l, hv => by simp only [LOk] at hv; simp only [subL, sub_same h v hv.1, subL_same h l hv.2]
end
theorem one_sub (v : Value) : one (sub σ v) = one v := by
  cases v with
  | pointer a => cases a <;> rfl
  | slice a _ _ => cases a <;> rfl
  | map a => cases a <;> rfl
  | chan a => cases a <;> rfl
  | _ => rfl
theorem sub_undef : sub σ unk = unk := by simp [unk, sub, subA, subL]
end
def ROk (n : Nat) (r : Nat → Value) : Prop := ∀ t, r t = unk ∨ VOk n (r t)
def objOk (n : Nat) : AObj → Prop
  | .dead => True
  | .cells c _ _ => LOk n c
  | .map es _ => ∀ e ∈ es, VOk 0 e.1 ∧ VOk n e.2
  | .loop _ _ _ r _ _ _ _ dfr => ROk n r ∧ dfr < n
  | .deferred => True
  | .chan _ => True
  | .group _ => True
  | .iter m _ _ => m < n
def heapOk (h : List AObj) : Prop := ∀ (i : Nat) (o : AObj), h[i]? = some o → objOk h.length o
def subO (σ : Nat → Nat) : AObj → AObj
  | .dead => .dead
  | .cells c wr sz => .cells (c.map (sub σ)) wr sz
  | .map es wr => .map (es.map fun e => (e.1, sub σ e.2)) wr
  | .loop st pend fn r size params assign body dfr => .loop st pend fn (fun t => sub σ (r t)) size params assign body (σ dfr)
  | .deferred => .deferred
  | .chan cap => .chan cap
  | .group x => .group x
  | .iter m k sn => .iter (σ m) k sn
theorem subO_live {σ : Nat → Nat} (o : AObj) : (subO σ o).live = o.live := by cases o <;> rfl
theorem subO_wrt {σ : Nat → Nat} (o : AObj) : (subO σ o).wrt = o.wrt := by cases o <;> rfl
theorem subO_same {n : Nat} {σ : Nat → Nat} (h : Same n σ) {o : AObj} (ho : objOk n o) : subO σ o = o := by
  cases o with
  | dead => rfl
  | deferred => rfl
  | chan cap => rfl
  | group x => rfl
  | iter m k sn =>
    simp only [objOk] at ho
    simp only [subO]
    rw [h m ho]
  | cells c wr sz =>
    simp only [objOk, LOk_iff] at ho
    simp only [subO]
    congr 1
    exact (List.map_congr_left fun v hv => sub_same h v (ho v hv)).trans (List.map_id _)
  | map es wr =>
    simp only [objOk] at ho
    simp only [subO]
    congr 1
    refine (List.map_congr_left fun e he => ?_).trans (List.map_id _)
    rw [sub_same h _ (ho e he).2]
    rfl
  | loop st pend fn r size params assign body dfr =>
    simp only [objOk] at ho
    simp only [subO]
    congr 1
    · funext t
      rcases ho.1 t with e | e
      · rw [e, sub_undef]
      · exact sub_same h _ e
    · exact h _ ho.2
structure GC (n0 : Nat) (σ : Nat → Nat) (h₂ h' : List AObj) : Prop where
  le : n0 ≤ h'.length
  same : Same n0 σ
  obj : ∀ (i : Nat) (o : AObj), h'[i]? = some o → o = .dead ∨ h₂[σ i]? = some (subO σ o)
  inj : ∀ (i j : Nat) (o o' : AObj), h'[i]? = some o → h'[j]? = some o' → o.live = true → o'.live = true → σ i = σ j → i = j
  ok : heapOk h'
section
variable {ρ : Env} {σ : Nat → Nat} {n0 n n' : Nat} {h h₂ h' : List AObj} {FC : Frm} {w : World} {ft : Foot} {f f' : RG} {a : Act} {N : Nat}
theorem sub_inv0 {v : Value} (u : sub σ v = .tuple ⟨[]⟩) : v = .tuple ⟨[]⟩ := by
  cases v with
  | tuple vs =>
    obtain ⟨l⟩ := vs
    simp only [sub, subA, subL_eq, Value.tuple.injEq] at u ⊢
    have := congrArg Array.toList u
    simp only [List.map_eq_nil_iff] at this
    rw [this]
  | pointer a => cases a <;> simp [sub] at u
  | slice a _ _ => cases a <;> simp [sub] at u
  | map a => cases a <;> simp [sub] at u
  | chan a => cases a <;> simp [sub] at u
  | _ => simp [sub] at u
theorem sub_inv {v : Value} (u : sub σ v = unk) : v = unk := by
  cases v with
  | tuple vs =>
    obtain ⟨l⟩ := vs
    simp only [sub, subA, subL_eq, unk, Value.tuple.injEq] at u ⊢
    have := congrArg Array.toList u
    simp only at this
    obtain ⟨x, rfl, hx⟩ := List.map_eq_singleton_iff.1 this
    rw [sub_inv0 hx]
  | pointer a => cases a <;> simp [sub, unk] at u
  | slice a _ _ => cases a <;> simp [sub, unk] at u
  | map a => cases a <;> simp [sub, unk] at u
  | chan a => cases a <;> simp [sub, unk] at u
  | _ => simp [sub, unk] at u
theorem RegRel.sub {r r' : Nat → Value} {tmps : Array Value} (hr : RegRel n ρ r tmps) (h : ∀ t, r' t = unk ∨ (r t = sub σ (r' t) ∧ VOk n' (r' t))) : RegRel n' (ρ.comp σ) r' tmps := by
  intro t
  rcases h t with e | ⟨e, ok⟩
  · exact .inl e
  · rcases hr t with u | ⟨_, u⟩
    · rw [e] at u
      have hu : r' t = unk := sub_inv u
      exact .inl hu
    · exact .inr ⟨ok, by rw [u, e, ren_sub]⟩
theorem ORel.sub {b : Nat} {o : AObj} {x : Option Obj} (ho : ORel n ρ (σ b) (subO σ o) x) (hok : objOk n' o) : ORel n' (ρ.comp σ) b o x := by
  cases o with
  | dead => trivial
  | cells c wr sz =>
    match x, ho with
    | some (.cells c' ty fr), ho =>
      obtain ⟨h1, h2, h3, h4⟩ := ho
      simp only [objOk, LOk_iff] at hok
      refine ⟨fun i v hv => ?_, fun hz => by simpa using h2 hz, fun hz => by simpa [Env.comp] using h3 hz, h4⟩
      rcases h1 i (Go.Proofs.Ythnccaajpdnndaa.sub σ v) (by rw [List.getElem?_map, hv]; rfl) with u | ⟨a1, a2, a3⟩
      · exact .inl ⟨sub_inv u.1, u.2⟩
      · exact .inr ⟨hok v (List.mem_of_getElem? hv), by rw [one_sub] at a2; exact a2, by rw [a3, ren_sub]⟩
  | map es wr =>
    match x, ho with
    | some (.map es' _), ⟨ho, hcl⟩ =>
      simp only [objOk] at hok
      refine ⟨⟨by simpa using ho.1, fun i k v hv => ?_⟩, by simpa using hcl⟩
      obtain ⟨a1, a2, e, a3, a4, a5, a6⟩ := ho.2 i k (Go.Proofs.Ythnccaajpdnndaa.sub σ v) (by rw [List.getElem?_map, hv]; rfl)
      exact ⟨a1, (hok _ (List.mem_of_getElem? hv)).2, e, a3, a4, by rw [a5, ren_sub], a6⟩
  | iter m k sn =>
    match x, ho with
    | some (.mapIter m' since seen last), ho => exact ⟨hok, ho.2⟩
  | loop st pend fn r size params assign body dfr =>
    match x, ho with
    | some (.loop l), ho =>
      obtain ⟨a1, a2, a3, a4, a5, a6, a7, a8, a9, a10⟩ := ho
      refine ⟨a1, a2, a3, a4.sub fun t => ?_, a5, a6, a7, a8, a9, hok.2⟩
      rcases hok.1 t with e | e
      · exact .inl e
      · exact .inr ⟨rfl, e⟩
  | deferred =>
    match x, ho with
    | some (.deferred (some [])), _ => trivial
  | chan cap =>
    match x, ho with
    | some (.chan _ _ _ _ _ _), ho => exact ho
  | group x => trivial
theorem GC.rel (g : GC n0 σ h₂ h') (H : HRel ρ h₂ FC w ft) : HRel (ρ.comp σ) h' FC w ft where
  obj := fun b o hb => by
    rcases g.obj b o hb with rfl | e
    · trivial
    · exact (H.obj _ _ e).sub (g.ok b o hb)
  inj := fun b b' o o' hb hb' l l' e => by
    have e1 := (g.obj b o hb).resolve_left (fun x => by rw [x] at l; cases l)
    have e2 := (g.obj b' o' hb').resolve_left (fun x => by rw [x] at l'; cases l')
    exact g.inj b b' o o' hb hb' l l' (H.inj _ _ _ _ e1 e2 (by rw [subO_live]; exact l) (by rw [subO_live]; exact l') e)
  rd := fun b o hb l => by
    have e1 := (g.obj b o hb).resolve_left (fun x => by rw [x] at l; cases l)
    exact H.rd _ _ e1 (by rw [subO_live]; exact l)
  wr := fun b o hb l => by
    have e1 := (g.obj b o hb).resolve_left (fun x => by rw [x] at l; cases l)
    exact H.wr _ _ e1 (by rw [subO_wrt]; exact l)
  lt := H.lt
  sub := H.sub
  kept := fun b o hb => by
    obtain ⟨a1, a2, a3⟩ := H.kept b o hb
    refine ⟨a1, a2, fun i oi hi l => ?_⟩
    have e1 := (g.obj i oi hi).resolve_left (fun x => by rw [x] at l; cases l)
    exact a3 _ _ e1 (by rw [subO_wrt]; exact l)
  keptW := H.keptW
  tag := fun b x hb => by
    have e1 := (g.obj b _ hb).resolve_left (fun e => by cases e)
    exact H.tag _ x e1
theorem GC.upto (g : GC n0 σ h₂ h') : Env.upto n0 ρ (ρ.comp σ) := fun b hb => by simp [Env.comp, g.same b hb]
theorem HRel.ok (H : HRel ρ h FC w ft) : heapOk h := by
  intro i o hi
  have := H.obj i o hi
  cases o with
  | dead => trivial
  | deferred => trivial
  | chan cap => trivial
  | group x => trivial
  | iter m k sn =>
    match hx : w.heap[ρ.blk i]?, this with
    | some (.mapIter m' since seen last), ho => exact ho.1
  | cells c wr sz =>
    match hx : w.heap[ρ.blk i]?, this with
    | some (.cells c' ty fr), ho =>
      simp only [objOk, LOk_iff]
      intro v hv
      obtain ⟨j, hj⟩ := List.getElem?_of_mem hv
      exact H.cellOk hi hj
  | map es wr =>
    match hx : w.heap[ρ.blk i]?, this with
    | some (.map es' _), ⟨ho, _⟩ =>
      intro e he
      obtain ⟨j, hj⟩ := List.getElem?_of_mem he
      obtain ⟨a1, a2, _⟩ := ho.2 j e.1 e.2 hj
      exact ⟨a1, a2⟩
  | loop st pend fn r size params assign body dfr =>
    match hx : w.heap[ρ.blk i]?, this with
    | some (.loop l), ho =>
      obtain ⟨a1, a2, a3, a4, a5, a6, a7, a8, a9, a10⟩ := ho
      refine ⟨fun t => ?_, a10⟩
      rcases a4 t with e | ⟨e, _⟩
      · exact .inl e
      · exact .inr e
structure GCR (n0 : Nat) (σ : Nat → Nat) (f₂ : RG) (h₂ : List AObj) (f' : RG) (h' : List AObj) : Prop where
  gc : GC n0 σ h₂ h'
  regs : ∀ t, f'.r t = unk ∨ (f₂.r t = sub σ (f'.r t) ∧ VOk h'.length (f'.r t))
  ds : f₂.ds = f'.ds.map σ
  dok : ∀ b ∈ f'.ds, b < h'.length
theorem GCR.act {f₂ : RG} (g : GCR n0 σ f₂ h₂ f' h') (A : ActRel h₂.length ρ N f₂ a) : ActRel h'.length (ρ.comp σ) N f' a :=
  ⟨A.regs.sub g.regs, A.size, by rw [A.defers, g.ds, List.map_map]; rfl, g.dok⟩
variable {P : Program} {main : Bool} {J : JT} {fn : FuncId} {Q : QT}
theorem Sem.gc {c : Code} {f₂ : RG} (g : GCR n0 σ f₂ h₂ f' h') (hs : Sem J N n0 fn c f' h' Q) : Sem J N n0 fn c f₂ h₂ Q := by
  intro b a k cs L ρ FC w ft h1 h2 h3 h4 h5 h6 hc
  exact hs b a k cs L _ FC w ft h1 h2 h3 (g.act h4) (g.gc.rel h5) g.gc.le fun e f3 h3' ρ3 w3 ft3 a3 q r1 r2 r3 r4 => hc e f3 h3' ρ3 w3 ft3 a3 q r1 r2 (Env.upto_trans g.gc.upto r3) r4
theorem Sem.ok {c : Code} (hs : heapOk h → n0 ≤ h.length → Sem J N n0 fn c f h Q) : Sem J N n0 fn c f h Q := by
  intro b a k cs L ρ FC w ft h1 h2 h3 h4 h5 h6 hc
  exact hs h5.ok h6 b a k cs L ρ FC w ft h1 h2 h3 h4 h5 h6 hc
theorem Sem_loop (hJ : Closed P main J) {c : Code} (I : Nat → RG → List AObj → Prop)
    (hI : ∀ m f h, I m f h → Sem J N n0 fn c f h (thenK (fun f h => ∃ m', m' < m ∧ I m' f h) Q))
    {m : Nat} (h0 : I m f h) : Sem J N n0 fn (.loop c) f h Q := by
  have main : ∀ (m : Nat) (f : RG) (h : List AObj), I m f h → ∀ (b : FB) (a : Act) (k : List Item) (cs : List Frame) (L : Option Code → Act → World → Foot → Prop) (ρ : Env) (FC : Frm) (w : World) (ft : Foot), b.tag = fn → b.kind ≠ .early → LeaveOk J b cs L →
      ActRel h.length ρ N f a → HRel ρ h FC w ft → n0 ≤ h.length → Cont J N n0 b k cs L ρ FC Q → J (G (b.at a (.code c :: .inLoop c :: k)) cs) w ft := by
    intro m
    induction m using Nat.strongRecOn with
    | ind m ih =>
      intro f h hi b a k cs L ρ FC w ft h1 h2 h3 h4 h5 h6 hc
      refine hI m f h hi b a (.inLoop c :: k) cs L ρ FC w ft h1 h2 h3 h4 h5 h6 fun e f' h' ρ' w' ft' a' q g1 g2 g3 g4 => ?_
      cases e with
      | normal =>
        obtain ⟨m', hm, hi'⟩ := q
        refine hJ.ctrl rfl rfl (g' := G (b.at a' (.code c :: .inLoop c :: k)) cs) (fun w => by simp [G, stepG, stepG.exec, FB.at]) ?_
        exact ih m' hm f' h' hi' b a' k cs L _ FC w' ft' h1 h2 h3 g1 g2 g4 fun e f3 h3' ρ3 w3 ft3 a3 q r1 r2 r3 r4 => hc e f3 h3' ρ3 w3 ft3 a3 q r1 r2 (Env.upto_trans g3 r3) r4
      | exit id => exact AfterJ.push (fun _ => rfl) (by simp) (hc _ _ _ _ _ _ _ q g1 g2 g3 g4)
      | ret => exact AfterJ.push (fun _ => rfl) (by simp) (hc _ _ _ _ _ _ _ q g1 g2 g3 g4)
      | goto l => exact hc _ _ _ _ _ _ _ q g1 g2 g3 g4
      | panic l => exact hc _ _ _ _ _ _ _ q g1 g2 g3 g4
      | outgrown => exact hc _ _ _ _ _ _ _ q g1 g2 g3 g4
  intro b a k cs L ρ FC w ft h1 h2 h3 h4 h5 h6 hc
  refine hJ.ctrl rfl rfl (g' := G (b.at a (.code c :: .inLoop c :: k)) cs) (fun w => by simp [G, stepG, stepG.exec, FB.at]) ?_
  exact main m f h h0 b a k cs L ρ FC w ft h1 h2 h3 h4 h5 h6 hc
end
def resW (P : Program) : List ResultVar → (Nat → Value) → List AObj → (List Value → Prop) → Prop
  | [], _, _, K => K []
  | .tmp t :: rs, r, h, K => r t ≠ unk ∧ resW P rs r h fun vs => K (r t :: vs)
  | .cell a t :: rs, r, h, K => match tk P t with
    | some (g, s) => aLoad g s (r a) h fun v => resW P rs r h fun vs => K (v :: vs)
    | none => False
def pack (vs : List Value) : Value :=
  match vs with
  | [v] => v
  | vs => .tuple ⟨vs⟩
def takeW : List Nat → List AObj → (List AObj → Prop) → Prop
  | [], h, K => K h
  | d :: ds, h, K => h[d]? = some .deferred ∧ takeW ds (h.set d .dead) K
def RetQ (P : Program) (rs : List ResultVar) (n0 : Nat) (K : Value → List AObj → Prop) : QT := fun e f h =>
  match e with
  | .normal | .ret => takeW f.ds h fun h => resW P rs f.r h fun vs => K (pack vs) h ∨ ∃ σ h' v, GC n0 σ h h' ∧ pack vs = sub σ v ∧ VOk h'.length v ∧ K v h'
  | _ => False
section
variable {P : Program} {main : Bool} {J : JT} {N : Nat} {ρ : Env} {h : List AObj} {FC : Frm} {w : World} {ft : Foot} {f : RG} {a : Act} {cs : List Frame} {b : FB}
theorem HRel.clobber (H : HRel ρ h FC w ft) {d : Nat} {o₀ : AObj} (hd : h[d]? = some o₀) (hw : o₀.wrt = true) (x : Obj) : HRel ρ (h.set d .dead) FC { w with heap := w.heap.setIfInBounds (ρ.blk d) x } ft := by
  have hl0 : o₀.live = true := by cases o₀ <;> first | rfl | cases hw
  have hoth : ∀ y, y ≠ ρ.blk d → (w.heap.setIfInBounds (ρ.blk d) x)[y]? = w.heap[y]? := fun y hy => by
    rw [Array.getElem?_setIfInBounds, if_neg (fun e => hy e.symm)]
  refine ⟨fun i o hi => ?_, fun i j o o' hi hj l1 l2 e => ?_, fun i o hi hl => ?_, fun i o hi hl => ?_, fun y hy => ?_, H.sub, fun y o hy => ?_, H.keptW, fun i x hi => (by
    rcases set_get hi with ⟨rfl, e, _⟩ | ⟨_, hi⟩
    · cases e
    · exact H.tag i x hi)⟩
  · rw [List.length_set]
    rcases set_get hi with ⟨rfl, rfl, _⟩ | ⟨hne, hi⟩
    · trivial
    · cases hl : o.live with
      | false => cases o <;> first | trivial | cases hl
      | true =>
        show ORel h.length ρ i o (w.heap.setIfInBounds (ρ.blk d) x)[ρ.blk i]?
        rw [hoth _ (fun e => hne (H.inj _ _ _ _ hi hd hl hl0 e))]
        exact H.obj _ _ hi
  · rcases set_get hi with ⟨rfl, rfl, _⟩ | ⟨hne, hi⟩
    · cases l1
    · rcases set_get hj with ⟨rfl, rfl, _⟩ | ⟨hne', hj⟩
      · cases l2
      · exact H.inj _ _ _ _ hi hj l1 l2 e
  · rcases set_get hi with ⟨rfl, rfl, _⟩ | ⟨hne, hi⟩
    · cases hl
    · exact H.rd _ _ hi hl
  · rcases set_get hi with ⟨rfl, rfl, _⟩ | ⟨hne, hi⟩
    · cases hl
    · exact H.wr _ _ hi hl
  · simpa using H.lt y hy
  · obtain ⟨a1, a2, a3⟩ := H.kept y o hy
    refine ⟨?_, a2, fun i oi hi hl => ?_⟩
    · show (w.heap.setIfInBounds (ρ.blk d) x)[y]? = some o
      rw [hoth _ (fun e => a3 _ _ hd hw e.symm)]
      exact a1
    · rcases set_get hi with ⟨rfl, rfl, _⟩ | ⟨hne, hi⟩
      · cases hl
      · exact a3 _ _ hi hl
theorem evOk_objW {r : Nat} {x : Obj} (hr : ft.rd r) (hw : ft.wr r) (hx : x.isChan = false) : EvOk ft ⟨.obj r, true, x.isChan⟩ := ⟨hx, hr, fun _ => hw⟩
theorem evOk_objR {r : Nat} {x : Obj} (hr : ft.rd r) (hx : x.isChan = false) : EvOk ft ⟨.obj r, false, x.isChan⟩ := ⟨hx, hr, fun e => by cases e⟩
theorem take_run (H : HRel ρ h FC w ft) {d : Nat} (hd : h[d]? = some .deferred) {Q : List Deferred → World → Prop} (hQ : ∀ w', HRel ρ (h.set d .dead) FC w' ft → Stays ft w w' → w'.heap.size = w.heap.size → Q [] w') : RunsTo P (EvOk ft) (Instr.takeDeferred (ρ.blk d)) w Q := by
  have ho := H.obj d _ hd
  have hrd := H.rd d _ hd rfl
  have hwr := H.wr d _ hd rfl
  match hw : w.heap[ρ.blk d]?, ho with
  | some (.deferred (some [])), _ =>
    unfold Instr.takeDeferred
    refine RunsTo.bind (RunsTo.getObj hw (fun _ _ _ e => by cases e) (evOk_objR hrd rfl) ?_)
    simp only
    refine RunsTo.bind (RunsTo.setObj hw (fun _ _ _ e => by cases e) (evOk_objW hrd hwr rfl) (RunsTo.pure ?_))
    refine hQ _ (H.clobber hd rfl _) ⟨fun y hy hny => ?_, by simp, rfl, rfl, rfl⟩ (by simp)
    show (w.heap.setIfInBounds (ρ.blk d) _)[y]? = _
    have hne : ρ.blk d ≠ y := fun e => hny (by rw [← e]; exact hwr)
    rw [Array.getElem?_setIfInBounds, if_neg hne]
def resF (tmps : Array Value) : ResultVar → Go.Sem Value
  | .tmp t => pure (tmps.getD t undef)
  | .cell x t => do loadVar t (← asAddr (tmps.getD x undef))
theorem res_run (H : HRel ρ h FC w ft) {n : Nat} (hr : RegRel h.length ρ f.r a.tmps) {Q : List Value → World → Prop} : ∀ (rs : List ResultVar) {K : List Value → Prop}, resW P rs f.r h K →
    (∀ vs, K vs → (∀ v ∈ vs, VOk h.length v) → Q (vs.map (ren ρ)) w) →
    RunsTo P (EvOk ft) (rs.mapM (resF a.tmps)) w Q
  | [], K, hK, hQ => by
    rw [List.mapM_nil]
    exact RunsTo.pure (hQ [] hK (by simp))
  | .tmp t :: rs, K, hK, hQ => by
    rw [List.mapM_cons]
    have hv := (hr t).resolve_left hK.1
    refine RunsTo.bind (RunsTo.pure (RunsTo.bind (res_run (n := n) H hr rs hK.2 fun vs hvs hok => RunsTo.pure ?_)))
    rw [hv.2]
    exact hQ (f.r t :: vs) hvs (by simpa using ⟨hv.1, hok⟩)
  | .cell x t :: rs, K, hK, hQ => by
    rw [List.mapM_cons]
    simp only [resW] at hK
    split at hK
    · rename_i g s ht
      have hx : f.r x ≠ unk := by
        intro e
        rw [e] at hK
        exact hK
      have hv := (hr x).resolve_left hx
      have hl : resF a.tmps (.cell x t) = Instr.loadAt t (ren ρ (f.r x)) := by
        unfold resF
        simp only
        rw [hv.2]
        unfold aLoad at hK
        split at hK
        · rename_i e
          rw [e]
          rfl
        · exact hK.elim
      rw [hl]
      refine RunsTo.bind (sound_load H ht hK fun v hk hok => ?_)
      refine RunsTo.bind (res_run (n := n) H hr rs hk fun vs hvs hoks => RunsTo.pure ?_)
      exact hQ (v :: vs) hvs (by simpa using ⟨hok, hoks⟩)
    · exact hK.elim
theorem pack_ren (vs : List Value) : (if h : (vs.map (ren ρ)).toArray.size = 1 then (vs.map (ren ρ)).toArray[0] else .tuple (vs.map (ren ρ)).toArray) = ren ρ (pack vs) := by
  match vs with
  | [] => simp [pack, ren, renA, renL]
  | [v] => simp [pack]
  | v :: u :: vs => simp [pack, ren, renA, renL_eq]
theorem pack_ok {n : Nat} {vs : List Value} (h : ∀ v ∈ vs, VOk n v) : VOk n (pack vs) := by
  match vs with
  | [] => simp [pack, VOk, AOk, LOk]
  | [v] => exact h v (by simp)
  | v :: u :: vs =>
    simp only [pack, VOk, AOk]
    exact (LOk_iff _).2 h
theorem leave_run (hJ : Closed P main J) {fn : Func} (hk : b.kind = .normal) (hf : P.funcs[b.fn]? = some fn) {c : Frame} {n0 : Nat} {K : Value → List AObj → Prop}
    (hc : ∀ v h' ρ' w' ft' cv, K v h' → HRel ρ' h' FC w' ft' → Env.upto n0 ρ ρ' → n0 ≤ h'.length → VRel h'.length ρ' v cv → J (G (c.finish cv) cs) w' ft') :
    ∀ (ds : List Nat) (h : List AObj) (w : World) (ft : Foot) (a : Act) (fr : Frame), fr.fn = b.fn → fr.kind = .normal → fr.mode = .returning → fr.tmps = a.tmps → fr.defers = ds.map (fun d => { target := .collected (ρ.blk d), args := #[] }) → RegRel h.length ρ f.r a.tmps → HRel ρ h FC w ft → n0 ≤ h.length →
      takeW ds h (fun h => resW P fn.results.toList f.r h fun vs => K (pack vs) h ∨ ∃ σ h' v, GC n0 σ h h' ∧ pack vs = sub σ v ∧ VOk h'.length v ∧ K v h') → J (G fr (c :: cs)) w ft
  | [], h, w, ft, a, fr, e1, e2, e3, e4, e5, hr, H, hn, hq => by
    obtain ⟨fn', tmps, todo, defers, mode, kind, ro⟩ := fr
    simp only at e1 e2 e3 e4 e5
    subst e1 e2 e3 e4 e5
    refine hJ.step rfl fun w₁ h₁ => ?_
    have H₁ := H.rely h₁
    have hrun : RunsTo P (EvOk ft) (results fn a.tmps) w₁ fun cv w' => w' = w₁ ∧ ∃ vs, cv = ren ρ (pack vs) ∧ (∀ v ∈ vs, VOk h.length v) ∧ (K (pack vs) h ∨ ∃ σ h' v, GC n0 σ h h' ∧ pack vs = sub σ v ∧ VOk h'.length v ∧ K v h') := by
      unfold results
      have : (fn.results.mapM (resF a.tmps)) = Functor.map List.toArray (fn.results.toList.mapM (resF a.tmps)) := by
        rw [Array.mapM_eq_mapM_toList]
      show RunsTo P (EvOk ft) (do
        let vs ← fn.results.mapM (resF a.tmps)
        pure (if h : vs.size = 1 then vs[0] else .tuple vs)) w₁ _
      rw [this]
      refine RunsTo.bind (RunsTo.map (res_run (n := 0) H₁ hr fn.results.toList hq fun vs hvs hok => RunsTo.pure ⟨rfl, vs, ?_, hok, hvs⟩))
      exact pack_ren vs
    obtain ⟨cv, w', es, hr', he, rfl, vs, rfl, hvok, hvs⟩ := hrun #[] (by simp)
    have hes : ∀ e ∈ seen P b.fn es, EvOk ft e := fun e hm => he e (mem_seen hm)
    refine ⟨G (c.finish (ren ρ (pack vs))) cs, w', seen P b.fn es, ?_, rfl, (Stays.refl ft w').guar hes, ?_⟩
    · simp only [G, stepG, unwind, List.map_nil, hf, hr']
      simp [doReturn, GStep.after]
    · rw [Foot.ext_self]
      rcases hvs with hK | ⟨σ, h', v, g, hp, hok, hK⟩
      · exact hc _ h _ w' ft _ hK H₁ (Env.upto_refl _ _) hn (.inr ⟨pack_ok hvok, rfl⟩)
      · rw [hp, ren_sub]
        exact hc v h' _ w' ft _ hK (g.rel H₁) g.upto g.le (.inr ⟨hok, rfl⟩)
  | d :: ds, h, w, ft, a, fr, e1, e2, e3, e4, e5, hr, H, hn, hq => by
    obtain ⟨fn', tmps, todo, defers, mode, kind, ro⟩ := fr
    simp only at e1 e2 e3 e4 e5
    subst e1 e2 e3 e4 e5
    obtain ⟨hd, hq⟩ := hq
    refine hJ.step rfl fun w₁ h₁ => ?_
    have H₁ := H.rely h₁
    obtain ⟨cv, w', es, hr', he, rfl, H', hst, hsz⟩ := take_run (P := P) H₁ hd (Q := fun l w' => l = [] ∧ HRel ρ (h.set d .dead) FC w' ft ∧ Stays ft w₁ w' ∧ w'.heap.size = w₁.heap.size) (fun w' a1 a2 a3 => ⟨rfl, a1, a2, a3⟩) #[] (by simp)
    have hes : ∀ e ∈ seen P b.fn es, EvOk ft e := fun e hm => he e (mem_seen hm)
    refine ⟨G { fn := b.fn, tmps := a.tmps, todo := todo, defers := ds.map (fun d => { target := .collected (ρ.blk d), args := #[] }), mode := .returning, kind := .normal, roundOf := ro } (c :: cs), w', seen P b.fn es, ?_, rfl, hst.guar hes, ?_⟩
    · simp only [G, stepG, unwind, List.map_cons, hr']
      simp [GStep.after]
    · rw [hsz, Foot.ext_self]
      exact leave_run hJ hk hf hc ds _ w' ft a _ rfl rfl rfl rfl rfl (by rw [List.length_set]; exact hr) H' (by rw [List.length_set]; exact hn) hq
end
def regs (args : List Value) : Nat → Value := fun t => args.getD t unk
section
variable {P : Program} {main : Bool} {J : JT} {g : FuncId} {args : List Value} {h : List AObj} {K : Value → List AObj → Prop}
theorem Good.mono {K' : Value → List AObj → Prop} (hg : Good P J g args h K) (hk : ∀ v h, K v h → K' v h) : Good P J g args h K' :=
  hg.imp (fun hg => ⟨hg.1, fun ρ FC w ft cs c cargs fr h1 h2 h3 he h4 => hg.2 ρ FC w ft cs c cargs fr h1 h2 h3 he fun v h' ρ' w' ft' cv k => h4 v h' ρ' w' ft' cv (hk _ _ k)⟩) fun hg => ⟨hg.1, fun b a ops i rest o k cs ρ FC w ft cargs s h1 h2 h3 h4 => hg.2 b a ops i rest o k cs ρ FC w ft cargs s h1 h2 h3 fun v h' ρ' w' ft' cv k => h4 v h' ρ' w' ft' cv (hk _ _ k)⟩
theorem good_of_sem (hJ : Closed P main J) {fn : Func} (hf : P.funcs[g]? = some fn) {c : Code} (hb : fn.body = some c) (hn : (fn.name == "runtime.NumGoroutine") = false) (ha : args.length ≤ fn.ntmps)
    (hs : heapOk h → Sem J fn.ntmps h.length g c ⟨regs args, []⟩ h (RetQ P fn.results.toList h.length K)) : Good P J g args h K := by
  have hlt : g < P.funcs.size := (Array.getElem?_eq_some_iff.1 hf).1
  refine .inl ⟨.inl ⟨hlt, by simp [callable, hf, hb, hn]⟩, fun ρ FC w ft cs c' cargs fr H hr hl hent hc => ?_⟩
  obtain rfl : fr = Frame.enter P g ⟨cargs⟩ .normal := by
    rcases hent with ⟨_, e⟩ | ⟨hge, _⟩
    · exact e
    · exact absurd hlt (Nat.not_lt.2 hge)
  have he : Frame.enter P g ⟨cargs⟩ .normal = FB.at ⟨g, .normal, none, []⟩ ⟨⟨cargs⟩ ++ Array.replicate (fn.ntmps - cargs.length) undef, []⟩ [.code c] := by
    simp [Frame.enter, FB.at, hf, hb]
  rw [he]
  have A : ActRel h.length ρ fn.ntmps ⟨regs args, []⟩ ⟨⟨cargs⟩ ++ Array.replicate (fn.ntmps - cargs.length) undef, []⟩ := by
    refine ⟨fun t => ?_, by simp; omega, rfl, by simp⟩
    have := hr t
    have ht : ((⟨cargs⟩ : Array Value) ++ Array.replicate (fn.ntmps - cargs.length) undef).getD t undef = cargs.getD t undef := by
      rw [Array.getD_eq_getD_getElem?, List.getD_eq_getElem?_getD]
      by_cases hx : t < cargs.length
      · rw [Array.getElem?_append_left (by simpa using hx)]
        simp
      · rw [Array.getElem?_append_right (by simp; omega), List.getElem?_eq_none (by omega)]
        simp only [Array.getElem?_replicate]
        split <;> rfl
    rw [ht]
    exact this
  have last : ∀ f' h' ρ' w' ft' a' todo, RetQ P fn.results.toList h.length K .ret f' h' → ActRel h'.length ρ' fn.ntmps f' a' → HRel ρ' h' FC w' ft' → Env.upto h.length ρ ρ' → h.length ≤ h'.length →
      J (G { (FB.at ⟨g, .normal, none, []⟩ a' todo) with mode := .returning } (c' :: cs)) w' ft' := by
    intro f' h' ρ' w' ft' a' todo q A' H' hu hl
    exact leave_run (b := ⟨g, .normal, none, []⟩) (f := f') (n0 := h.length) (ρ := ρ') hJ rfl hf (fun v h2 ρ2 w2 ft2 cv k H2 u2 l2 v2 => hc v h2 ρ2 w2 ft2 cv k H2 (Env.upto_trans hu u2) l2 v2) f'.ds h' w' ft' a' _ rfl rfl rfl rfl ((List.append_nil _).trans A'.defers) A'.regs H' hl q
  refine hs H.ok ⟨g, .normal, none, []⟩ _ [] (c' :: cs) (fun jump a w ft => jump = some .ret ∧ ∀ todo, J (G { (FB.at ⟨g, .normal, none, []⟩ a todo) with mode := .returning } (c' :: cs)) w ft) ρ FC w ft rfl (by simp) ?_ A H (Nat.le_refl _) ?_
  · rintro jump a w ft todo ⟨rfl, hj⟩ hh
    rcases hh with ⟨_, k, rfl⟩ | ⟨id, k, e, _⟩ | ⟨e, _⟩
    · exact hJ.ctrl rfl rfl (fun w => by simp [G, stepG, stepG.exec, FB.at]) (hj (.code .ret :: k))
    · cases e
    · cases e
  · intro e f' h' ρ' w' ft' a' q A' H' hu hl
    cases e with
    | normal => exact hJ.ctrl rfl rfl (fun w => by simp [G, stepG, stepG.exec, FB.at]) (last f' h' ρ' w' ft' a' [] q A' H' hu hl)
    | ret => exact ⟨rfl, fun todo => last f' h' ρ' w' ft' a' todo q A' H' hu hl⟩
    | exit id => exact q.elim
    | goto l => exact q.elim
    | panic l => exact q.elim
    | outgrown => exact q.elim
end
def Pin (F : (Value → Prop) → Prop) : Prop := ∀ K, F K → ∃ v, K v ∧ ∀ K1 : Value → Prop, K1 v → F K1
section
variable {P : Program}
theorem pin_const (v : Value) : Pin fun K => K v := fun _ h => ⟨v, h, fun _ h => h⟩
theorem pin_no : Pin fun _ => False := fun _ h => h.elim
theorem pin_and {p : Prop} {F : (Value → Prop) → Prop} (h : Pin F) : Pin fun K => p ∧ F K := fun K hk => by
  obtain ⟨v, a, b⟩ := h K hk.2
  exact ⟨v, a, fun K1 k => ⟨hk.1, b K1 k⟩⟩
theorem pin_aLoad {g : Bool} {s : Nat} {p : Value} {h : List AObj} : Pin (aLoad g s p h) := by
  intro K hK
  unfold aLoad at hK ⊢
  split at hK
  · split at hK
    · rename_i hb
      cases g with
      | true => exact ⟨_, hK.2.2, fun K1 k => ⟨hK.1, hK.2.1, k⟩⟩
      | false =>
        simp only [cond_false] at hK
        split at hK
        · rename_i hv
          exact ⟨_, hK.2, fun K1 k => by first | exact ⟨hK.1, k⟩ | (simp only [cond_false]; exact ⟨hK.1, k⟩) | (simp only [cond_false, hv]; exact ⟨hK.1, k⟩)⟩
        · exact hK.elim
    · exact hK.elim
  · exact hK.elim
theorem pin_aField {g : Bool} {s o : Nat} {x : Value} : Pin (aField g s o x) := by
  intro K hK
  unfold aField at hK ⊢
  split at hK
  · cases g with
    | true => exact ⟨_, hK.2, fun K1 k => ⟨hK.1, k⟩⟩
    | false =>
      simp only [cond_false] at hK
      split at hK
      · rename_i hv
        exact ⟨_, hK, fun K1 k => by first | exact k | (simp only [cond_false]; exact k) | (simp only [cond_false, hv]; exact k)⟩
      · exact hK.elim
  · exact hK.elim
theorem pin_aOff {p : Value} {o : Nat} : Pin (aOff p o) := by
  intro K hK
  unfold aOff at hK ⊢
  split at hK
  · exact ⟨_, hK, fun K1 k => k⟩
  · exact hK.elim
theorem pin_aIdx {s : Nat} {x i : Value} : Pin (aIdx s x i) := by
  intro K hK
  unfold aIdx at hK ⊢
  split at hK
  · exact ⟨_, hK.2, fun K1 k => ⟨hK.1, k⟩⟩
  · exact hK.elim
theorem pin_aIdxA {l s : Nat} {x i : Value} : Pin (aIdxA l s x i) := by
  intro K hK
  unfold aIdxA at hK ⊢
  split at hK
  · exact ⟨_, hK.2, fun K1 k => ⟨hK.1, k⟩⟩
  · exact hK.elim
theorem pin_aInt {op : BinOp} {k : IntKind} {a b : Int} : Pin (aInt op k a b) := by
  cases op <;> first | exact pin_no | exact pin_const _ | exact pin_and (pin_const _)
theorem pin_aShift {op : BinOp} {k : IntKind} {a b : Int} : Pin (aShift op k a b) := by
  unfold aShift
  refine pin_and ?_
  cases op <;> first | exact pin_no | exact pin_const _
theorem pin_aEq {n : Bool} {t : TypeId} {x y : Value} : Pin (aEq P n t x y) := by
  intro K hK
  unfold aEq at hK ⊢
  split at hK
  · rename_i hb
    exact ⟨_, hK.2, fun K1 k => by first | exact ⟨hK.1, k⟩ | (simp only [hb]; exact ⟨hK.1, k⟩)⟩
  · exact hK.elim
theorem pin_aStr {op : BinOp} {a b : ByteArray} : Pin (aStr op a b) := by
  cases op <;> first | exact pin_no | exact pin_const _ | exact pin_and (pin_const _)
theorem pin_aBin {op : BinOp} {t : TypeId} {x y : Value} : Pin (aBin P op t x y) := by
  intro K hK
  have hh := hK
  unfold aBin at hK
  split at hK
  · split at hK
    · obtain ⟨v, a, b⟩ := pin_aShift K hK
      exact ⟨v, a, fun K1 k => by unfold aBin; exact b K1 k⟩
    · obtain ⟨v, a, b⟩ := pin_aShift K hK
      exact ⟨v, a, fun K1 k => by unfold aBin; exact b K1 k⟩
    · rename_i n1 n2
      obtain ⟨v, a, b⟩ := pin_aInt K hK.2
      refine ⟨v, a, fun K1 k => ?_⟩
      unfold aBin
      cases op <;> first | exact ⟨hK.1, b K1 k⟩ | exact absurd rfl n1 | exact absurd rfl n2
  · obtain ⟨v, a, b⟩ := pin_aStr K hK
    exact ⟨v, a, fun K1 k => by unfold aBin; exact b K1 k⟩
  · rename_i n1 n2
    cases op <;> first | exact hK.elim | skip
    · obtain ⟨v, a, b⟩ := pin_aEq K hK
      refine ⟨v, a, fun K1 k => ?_⟩
      unfold aBin
      split
      · exact absurd rfl (n1 _ _ _ _ rfl)
      · exact absurd rfl (n2 _ _ rfl)
      · exact b K1 k
    · obtain ⟨v, a, b⟩ := pin_aEq K hK
      refine ⟨v, a, fun K1 k => ?_⟩
      unfold aBin
      split
      · exact absurd rfl (n1 _ _ _ _ rfl)
      · exact absurd rfl (n2 _ _ rfl)
      · exact b K1 k
theorem pin_aUn {op : UnOp} {x : Value} : Pin (aUn op x) := by
  intro K hK
  unfold aUn at hK ⊢
  split at hK
  · exact ⟨_, hK, fun K1 k => k⟩
  · exact ⟨_, hK, fun K1 k => k⟩
  · exact hK.elim
theorem pin_aConv {t : TypeId} {x : Value} : Pin (aConv P t x) := by
  intro K hK
  unfold aConv at hK ⊢
  split at hK
  · rename_i hb
    exact ⟨_, hK, fun K1 k => by first | exact k | (simp only [hb]; exact k)⟩
  · exact hK.elim
theorem pin_aIdxStr {x i : Value} : Pin (aIdxStr x i) := by
  intro K hK
  unfold aIdxStr at hK ⊢
  split at hK
  · obtain ⟨h0, hK⟩ := hK
    split at hK
    · rename_i hb
      exact ⟨_, hK, fun K1 k => by first | exact ⟨h0, k⟩ | (simp only [hb]; exact ⟨h0, k⟩)⟩
    · exact hK.elim
  · exact hK.elim
theorem pin_aIdxV {n s : Nat} {g : Bool} {x i : Value} : Pin (aIdxV n s g x i) := by
  intro K hK
  unfold aIdxV at hK ⊢
  split at hK
  · obtain ⟨v, a, b⟩ := pin_aField _ hK.2
    exact ⟨v, a, fun K1 k => ⟨hK.1, b K1 k⟩⟩
  · exact hK.elim
theorem pin_aCapS {x : Value} : Pin (aCapS x) := by
  intro K hK
  unfold aCapS at hK ⊢
  split at hK
  · exact ⟨_, hK.2, fun K1 k => ⟨hK.1, k⟩⟩
  · exact hK.elim
theorem pin_aExt {x : Value} {i : Nat} : Pin (aExt x i) := by
  intro K hK
  unfold aExt at hK ⊢
  split at hK
  · split at hK
    · rename_i hb
      exact ⟨_, hK, fun K1 k => by first | exact k | (simp only [hb]; exact k)⟩
    · exact hK.elim
  · exact ⟨_, hK.2, fun K1 k => ⟨hK.1, k⟩⟩
  · exact hK.elim
theorem pin_aNil {x : Value} : Pin (aNil x) := by
  intro K hK
  unfold aNil at hK ⊢
  split at hK
  · exact ⟨_, hK, fun K1 k => k⟩
  · exact ⟨_, hK, fun K1 k => k⟩
  · exact ⟨_, hK, fun K1 k => k⟩
  · exact hK.elim
theorem pin_aLenS {x : Value} : Pin (aLenS x) := by
  intro K hK
  unfold aLenS at hK ⊢
  split at hK
  · exact ⟨_, hK, fun K1 k => k⟩
  · exact hK.elim
theorem pin_aLenStr {x : Value} : Pin (aLenStr x) := by
  intro K hK
  unfold aLenStr at hK ⊢
  split at hK
  · exact ⟨_, hK, fun K1 k => k⟩
  · exact hK.elim
theorem pin_aMin : ∀ (l : List Value) (x : Value), Pin (aMin x l)
  | [], x => fun K hK => ⟨x, hK, fun K1 k => k⟩
  | y :: l, x => by
    intro K hK
    unfold aMin at hK ⊢
    split at hK
    · obtain ⟨v, a, b⟩ := pin_aMin l _ K hK
      exact ⟨v, a, fun K1 k => b K1 k⟩
    · exact hK.elim
theorem pin_aMax : ∀ (l : List Value) (x : Value), Pin (aMax x l)
  | [], x => fun K hK => ⟨x, hK, fun K1 k => k⟩
  | y :: l, x => by
    intro K hK
    unfold aMax at hK ⊢
    split at hK
    · obtain ⟨v, a, b⟩ := pin_aMax l _ K hK
      exact ⟨v, a, fun K1 k => b K1 k⟩
    · exact hK.elim
theorem pin_aFill : ∀ (ps : List (Nat × Nat × Value)) (c : List Value) (K : List Value → Prop), aFill c ps K → ∃ c', K c' ∧ ∀ K1 : List Value → Prop, K1 c' → aFill c ps K1
  | [], c, K, hK => ⟨c, hK, fun K1 k => k⟩
  | (off, s, v) :: ps, c, K, hK => by
    obtain ⟨a1, a2, a3, hK⟩ := hK
    obtain ⟨c', b1, b2⟩ := pin_aFill ps _ K hK
    exact ⟨c', b1, fun K1 k => ⟨a1, a2, a3, b2 K1 k⟩⟩
def ptrBlk : Value → Option Nat
  | .pointer (some a) => some a.block
  | _ => none
def mapBlk : Value → Option Nat
  | .map b => b
  | _ => none
def readOf (o : Op) (r : Nat → Value) : Option Nat :=
  match o with
  | .load _ x => ptrBlk (ev r x)
  | .lookup _ m _ _ => mapBlk (ev r m)
  | .call { callee := .builtin .len, args, .. } => match args.toList with
    | [x] => mapBlk (ev r x)
    | _ => none
  | _ => none
def freeOp (P : Program) : Op → Bool
  | .move _ | .assign _ | .pick .. | .load .. | .nilCheck _ | .binOp .. | .unOp .. | .fieldAddr .. | .field .. | .indexAddr .. | .lookup .. | .extract .. | .build .. | .index .. => true
  | .convert s _ _ => match P.underlying s with
    | some (.int _) => true
    | _ => false
  | .makeFunc .. => true
  | .call { callee := .builtin b, .. } => match b with
    | .len | .min | .max | .cap => true
    | _ => false
  | _ => false
theorem aLoad_same {g : Bool} {s : Nat} {p : Value} {h h1 : List AObj} {K : Value → Prop} (e : ∀ b, ptrBlk p = some b → h1[b]? = h[b]?) (hK : aLoad g s p h K) : aLoad g s p h1 K := by
  unfold aLoad at hK ⊢
  split at hK
  · rename_i b off
    rw [e b rfl]
    exact hK
  · exact hK.elim
theorem aop_free {o : Op} {r : Nat → Value} {h : List AObj} {K : Value → List AObj → Prop} (hf : freeOp P o = true) (hK : aop P o r h K) :
    ∃ v, K v h ∧ ∀ (h1 : List AObj) (K1 : Value → List AObj → Prop), (∀ b, readOf o r = some b → h1[b]? = h[b]?) → K1 v h1 → aop P o r h1 K1 := by
  have use : ∀ {F : (Value → Prop) → Prop}, Pin F → F (fun v => K v h) → (∀ h1 (K1 : Value → List AObj → Prop), (∀ b, readOf o r = some b → h1[b]? = h[b]?) → F (fun v => K1 v h1) → aop P o r h1 K1) →
      ∃ v, K v h ∧ ∀ (h1 : List AObj) (K1 : Value → List AObj → Prop), (∀ b, readOf o r = some b → h1[b]? = h[b]?) → K1 v h1 → aop P o r h1 K1 := by
    intro F pf hF hh
    obtain ⟨v, a, b⟩ := pf _ hF
    exact ⟨v, a, fun h1 K1 e k => hh h1 K1 e (b _ k)⟩
  cases o <;> simp only [freeOp, Bool.false_eq_true] at hf <;> simp only [aop] at hK
  case move x => exact ⟨_, hK, fun h1 K1 _ k => k⟩
  case assign x => exact ⟨_, hK, fun h1 K1 _ k => k⟩
  case pick c a b =>
    split at hK
    · rename_i hb
      exact ⟨_, hK, fun h1 K1 _ k => by simp only [aop, hb]; exact k⟩
    · exact hK.elim
  case build t ps =>
    split at hK
    · rename_i z l hz hl
      cases hg : aggT P t with
      | true =>
        rw [hg] at hK
        obtain ⟨c', b1, b2⟩ := pin_aFill _ _ _ hK
        exact ⟨_, b1, fun h1 K1 _ k => by simp only [aop, hz, hl, hg, cond_true]; exact b2 _ k⟩
      | false => rw [hg] at hK; exact hK.elim
    · exact hK.elim
  case load t x =>
    split at hK
    · rename_i g s ht
      obtain ⟨v, a, b⟩ := pin_aLoad _ hK
      refine ⟨v, a, fun h1 K1 e k => ?_⟩
      simp only [aop, ht]
      exact aLoad_same e (b (fun v => K1 v h1) k)
    · exact hK.elim
  case nilCheck x => exact use pin_aNil hK fun h1 K1 _ k => k
  case binOp op t x y _ => exact use pin_aBin hK fun h1 K1 _ k => k
  case unOp op _ x => exact use pin_aUn hK fun h1 K1 _ k => k
  case convert s d x =>
    split at hK
    · rename_i hs
      exact use pin_aConv hK fun h1 K1 _ k => by simp only [aop, hs]; exact k
    · rename_i e hs
      rw [hs] at hf
      cases hf
    · exact hK.elim
  case index t x i =>
    split at hK
    · rename_i hs
      exact use pin_aIdxStr hK fun h1 K1 _ k => by simp only [aop, hs]; exact k
    · rename_i h1
      split at hK
      · rename_i h2
        exact use pin_aIdxV hK fun _ K1 _ k => by simp only [aop, h1, h2]; exact k
      · exact hK.elim
    · exact hK.elim
  case makeFunc fn first cap =>
    cases fn <;> simp only at hK
    exact ⟨_, hK.2, fun h1 K1 _ k => ⟨hK.1, k⟩⟩
  case fieldAddr t x f =>
    split at hK
    · rename_i hs
      exact use pin_aOff hK fun h1 K1 _ k => by simp only [aop, hs]; exact k
    · exact hK.elim
  case field t x f =>
    split at hK
    · rename_i h1
      split at hK
      · rename_i h2
        split at hK
        · rename_i h3
          exact use pin_aField hK fun _ K1 _ k => by simp only [aop, h1, h2, h3]; exact k
        · exact hK.elim
      · exact hK.elim
    · exact hK.elim
  case indexAddr t x i =>
    split at hK
    · rename_i h1
      split at hK
      · rename_i h2
        exact use pin_aIdx hK fun _ K1 _ k => by simp only [aop, h1, h2]; exact k
      · exact hK.elim
    · rename_i h1
      split at hK
      · rename_i h2
        exact use pin_aIdxA hK fun _ K1 _ k => by simp only [aop, h1, h2]; exact k
      · exact hK.elim
    · exact hK.elim
  case lookup t m k ok =>
    unfold aLook at hK
    split at hK
    · rename_i kt vt b hu hm
      split at hK
      · rename_i es wr z hb hz
        obtain ⟨hk, hK⟩ := hK
        split at hK
        · rename_i v hv
          refine ⟨_, hK, fun h1 K1 e k1 => ?_⟩
          simp only [aop, aLook, hu, hm]
          rw [e b (by simp [readOf, mapBlk, hm]), hb, hz]
          simp only [hv]
          exact ⟨hk, k1⟩
        · rename_i hv
          refine ⟨_, hK, fun h1 K1 e k1 => ?_⟩
          simp only [aop, aLook, hu, hm]
          rw [e b (by simp [readOf, mapBlk, hm]), hb, hz]
          simp only [hv]
          exact ⟨hk, k1⟩
        · exact hK.elim
      · exact hK.elim
    · exact hK.elim
  case extract t i => exact use pin_aExt hK fun h1 K1 _ k => k
  case call c =>
    obtain ⟨callee, args, argTypes⟩ := c
    cases callee with
    | value f => cases hf
    | invoke x m => cases hf
    | builtin b =>
      obtain ⟨args⟩ := args
      obtain ⟨argTypes⟩ := argTypes
      simp only at hK
      split at hK
      · rename_i x t
        split at hK
        · rename_i hu
          exact use pin_aLenStr hK fun h1 K1 _ k => by simp only [aop, hu]; exact k
        · rename_i hu
          exact use pin_aLenS hK fun h1 K1 _ k => by simp only [aop, hu]; exact k
        · rename_i hu
          unfold aLenM at hK
          split at hK
          · rename_i hm
            exact ⟨_, hK, fun h1 K1 _ k => by simp only [aop, hu, aLenM, hm]; exact k⟩
          · rename_i bb hm
            split at hK
            · rename_i hb
              refine ⟨_, hK, fun h1 K1 e k => ?_⟩
              simp only [aop, hu, aLenM, hm]
              rw [e bb (by simp [readOf, mapBlk, hm]), hb]
              exact k
            · exact hK.elim
          · exact hK.elim
        · rename_i hu
          exact ⟨_, hK, fun h1 K1 _ k => by simp only [aop, hu]; exact k⟩
        · exact hK.elim
      · split at hK
        · rename_i hu
          exact use pin_aCapS hK fun h1 K1 _ k => by simp only [aop, hu]; exact k
        · exact hK.elim
      · exact use (pin_aMin _ _) hK fun h1 K1 _ k => k
      · exact use (pin_aMax _ _) hK fun h1 K1 _ k => k
      · simp at hf
      · simp at hf
      · exact hK.elim
end
section
variable {P : Program} {C : FuncId → List Value → List AObj → (Value → List AObj → Prop) → Prop} {N : Nat} {ops : Array Oper}
theorem aop_congr {o : Op} {r r' : Nat → Value} {h : List AObj} {K : Value → List AObj → Prop} (e : ∀ x ∈ o.operands, ev r x = ev r' x) (hK : aop P o r h K) : aop P o r' h K := by
  have lst : ∀ l : Array Operand, (∀ x ∈ l, ev r x = ev r' x) → l.toList.map (ev r) = l.toList.map (ev r') := fun l hl => List.map_congr_left fun x hx => hl x (by simpa using hx)
  have prs : ∀ ps : Array (Nat × Operand), (∀ x ∈ (ps.toList.map (·.2)).toArray, ev r x = ev r' x) → (ps.toList.map fun (i, x) => (i, ev r x)) = ps.toList.map fun (i, x) => (i, ev r' x) := fun ps hp =>
    List.map_congr_left fun p hm => by
      obtain ⟨i, x⟩ := p
      simp only [hp x (by simp only [List.mem_toArray, List.mem_map]; exact ⟨(i, x), hm, rfl⟩)]
  cases o <;> simp only [Op.operands] at e
  case build t ps => simp only [aop] at hK ⊢; rw [← prs ps e]; exact hK
  case buildSlice t n ps => simp only [aop] at hK ⊢; rw [← prs ps e]; exact hK
  case makeFunc fn first cap =>
    cases fn <;> simp only [aop] at hK ⊢
    have e1 : ∀ x ∈ first, ev r x = ev r' x := fun x hx => e x (by simp [hx])
    have e2 : ∀ x ∈ cap, ev r x = ev r' x := fun x hx => e x (by simp [hx])
    rw [← lst first e1, ← lst cap e2]
    refine ⟨?_, hK.2⟩
    rw [List.all_eq_true] at *
    intro x hx
    rw [← e x (by simpa using hx)]
    exact hK.1 x hx
  case slice t x lo hi mx => cases lo <;> cases hi <;> cases mx <;> simp_all [aop]
  case makeMap t x => cases x <;> simp_all [aop]
  case call c =>
    obtain ⟨callee, args, argTypes⟩ := c
    cases callee with
    | value f => exact hK.elim
    | invoke x m => exact hK.elim
    | builtin b =>
      have e1 := lst args fun x hx => e x (by simp [Call.operands, hx])
      obtain ⟨args⟩ := args
      simp only at e1
      obtain ⟨argTypes⟩ := argTypes
      simp only [aop] at hK
      split at hK
      · rename_i x t
        have hx : ev r x = ev r' x := by simpa using e1
        simp only [aop]
        rw [← hx]
        exact hK
      · rename_i x t
        have hx : ev r x = ev r' x := by simpa using e1
        simp only [aop]
        rw [← hx]
        exact hK
      · rename_i x l tys
        simp only [List.map_cons, List.cons.injEq] at e1
        simp only [aop]
        rw [← e1.1, ← e1.2]
        exact hK
      · rename_i x l tys
        simp only [List.map_cons, List.cons.injEq] at e1
        simp only [aop]
        rw [← e1.1, ← e1.2]
        exact hK
      · rename_i x y t u
        simp only [List.map_cons, List.cons.injEq] at e1
        simp only [aop]
        rw [← e1.1, ← e1.2.1]
        exact hK
      · rename_i x y t u
        simp only [List.map_cons, List.cons.injEq] at e1
        simp only [aop]
        rw [← e1.1, ← e1.2.1]
        exact hK
      · exact hK.elim
  case next x s =>
    cases s with
    | true => exact hK.elim
    | false =>
      simp only [aop] at hK ⊢
      have ex : ev r x = ev r' x := by first | exact e | exact e x (by simp)
      rw [← ex]
      exact hK
  all_goals (first | exact hK | (simp_all [aop]; done))
def opG (P : Program) (C : FuncId → List Value → List AObj → (Value → List AObj → Prop) → Prop) (ops : Array Oper) (o : Oper) (r : Nat → Value) (h : List AObj) (K : Value → List AObj → Prop) : Prop :=
  match gd ops o r with
  | some true => opW P C o r h K
  | some false => K undef h
  | none => False
def opM (P : Program) (C : FuncId → List Value → List AObj → (Value → List AObj → Prop) → Prop) (ops : Array Oper) (o : Oper) (r : Nat → Value) (h : List AObj) (K : Value → List AObj → Prop) : Prop :=
  ∃ K', opG P C ops o r h K' ∧ ∀ v h', K' v h' → K v h'
theorem gd_congr {o : Oper} {r r' : Nat → Value} (e : ∀ t ∈ o.looksAt ops, r t = r' t) : gd ops o r = gd ops o r' := by
  unfold gd
  cases hg : o.guard with
  | none => rfl
  | some jw =>
    obtain ⟨j, want⟩ := jw
    simp only
    cases hd : (ops[j]?).bind (·.dst) with
    | none => rfl
    | some t =>
      simp only
      rw [e t (by simp [Oper.looksAt, hg, hd])]
theorem ev_looks {o : Oper} {r r' : Nat → Value} (e : ∀ t ∈ o.looksAt ops, r t = r' t) : ∀ x ∈ o.op.operands, ev r x = ev r' x := by
  intro x hx
  cases x with
  | tmp t => exact e t (by
      simp only [Oper.looksAt, List.mem_append, List.mem_filterMap]
      exact .inl ⟨.tmp t, by simpa using hx, rfl⟩)
  | _ => rfl
theorem opG_congr {o : Oper} {r r' : Nat → Value} {h : List AObj} {K : Value → List AObj → Prop} (e : ∀ t ∈ o.looksAt ops, r t = r' t) (hK : opG P C ops o r h K) : opG P C ops o r' h K := by
  unfold opG at hK ⊢
  rw [← gd_congr e]
  split at hK
  · have eo := ev_looks e
    unfold opW at hK ⊢
    split at hK
    · rename_i x args ats hop
      rw [hop] at eo
      have ex := eo x (by simp [Op.operands, Call.operands])
      have ea : args.toList.map (ev r) = args.toList.map (ev r') := List.map_congr_left fun y hy => eo y (by simp [Op.operands, Call.operands]; exact .inr (by simpa using hy))
      try simp only [hop]
      rw [← ex, ← ea]
      exact hK
    · rename_i hn
      exact aop_congr eo hK
  · exact hK
  · exact hK.elim
def isFree (P : Program) (o : Oper) : Bool := freeOp P o.op
theorem opG_free {o : Oper} {r : Nat → Value} {h : List AObj} {K : Value → List AObj → Prop} (hf : isFree P o = true) (hK : opG P C ops o r h K) :
    ∃ v, K v h ∧ ∀ (h1 : List AObj) (K1 : Value → List AObj → Prop), (∀ b, readOf o.op r = some b → h1[b]? = h[b]?) → K1 v h1 → opG P C ops o r h1 K1 := by
  unfold opG at hK ⊢
  split at hK
  · have hw : opW P C o r h K = aop P o.op r h K := by
      unfold opW
      unfold isFree at hf
      split
      · rename_i e
        rw [e] at hf
        cases hf
      · rfl
    rw [hw] at hK
    obtain ⟨v, a, b⟩ := aop_free hf hK
    refine ⟨v, a, fun h1 K1 e k => ?_⟩
    have hw1 : opW P C o r h1 K1 = aop P o.op r h1 K1 := by
      unfold opW
      unfold isFree at hf
      split
      · rename_i e
        rw [e] at hf
        cases hf
      · rfl
    simp only [hw1]
    exact b h1 K1 e k
  · exact ⟨_, hK, fun h1 K1 _ k => k⟩
  · exact hK.elim
def isRead : Op → Bool
  | .load .. | .lookup .. => true
  | .call { callee := .builtin .len, .. } => true
  | _ => false
theorem readOf_none {o : Op} {r : Nat → Value} (h : isRead o = false) : readOf o r = none := by
  unfold isRead at h
  split at h
  · cases h
  · cases h
  · cases h
  · rename_i n1 n2 n3
    unfold readOf
    split
    · exact absurd rfl (n1 _ _)
    · exact absurd rfl (n2 _ _ _ _)
    · exact absurd rfl (n3 _ _)
    · rfl
def sOld (P : Program) (ops : Array Oper) (j : Nat) (o : Oper) : Bool :=
  !isFree P o && (List.range ops.size).any fun i => i != j && (match ops[i]? with
    | some oi => isRead oi.op && !(o.after.any fun e => Region.binds .any e && e.on == i)
    | none => false)
def maskOf (ops : Array Oper) (l : List Nat) (j : Nat) : Nat := match ops[j]? with
  | some o => o.after.toList.foldl (fun m e => bif Region.binds .any e then m ||| (2 ^ e.on ||| l.getD e.on 0) else m) 0
  | none => 0
def snocM (ops : Array Oper) (l : List Nat) (n : Nat) : List Nat := l ++ [maskOf ops l n]
def masks (ops : Array Oper) : Nat → List Nat
  | 0 => []
  | n + 1 => snocM ops (masks ops n) n
def isSt : Op → Bool
  | .store .. => true
  | _ => false
def fineR (P : Program) (ops : Array Oper) : Bool := (List.range ops.size).any fun i => match ops[i]? with
  | some o => isSt o.op && sOld P ops i o
  | none => false
def sFine (P : Program) (ops : Array Oper) (j : Nat) (o : Oper) : Bool :=
  !isFree P o && (List.range ops.size).any fun i => i != j && (match ops[i]? with
    | some oi => isRead oi.op && !(Nat.testBit ((masks ops ops.size).getD j 0) i)
    | none => false)
def sNeed (P : Program) (ops : Array Oper) (j : Nat) (o : Oper) : Bool := bif fineR P ops then sFine P ops j o else sOld P ops j o
def Down (ops : Array Oper) (L : Array Bool) : Prop := ∀ k ok, ops[k]? = some ok → L.getD k false = true → ∀ e ∈ ok.after, Region.binds .any e = true → L.getD e.on false = true
theorem down_init {ops : Array Oper} {n : Nat} : Down ops (Array.replicate n false) := by
  intro k ok _ hk
  exfalso
  rw [Array.getD_eq_getD_getElem?, Array.getElem?_replicate] at hk
  split at hk <;> simp at hk
theorem down_set {ops : Array Oper} {L : Array Bool} {j : Nat} (hD : Down ops L) (hj : j ∈ Region.ready .any ops L) : Down ops (L.setIfInBounds j true) := by
  intro k ok hk hd e he hb
  refine getD_set_true ?_
  by_cases hkj : j = k
  · subst hkj
    rw [mem_ready] at hj
    obtain ⟨_, o, ho, hall⟩ := hj
    rw [hk] at ho
    cases ho
    exact hall e he hb
  · rw [getD_set_ne false hkj] at hd
    exact hD k ok hk hd e he hb
theorem mask_fold {ops : Array Oper} {l : List Nat} {i : Nat} : ∀ {es : List Edge} {m : Nat}, Nat.testBit (es.foldl (fun m e => bif Region.binds .any e then m ||| (2 ^ e.on ||| l.getD e.on 0) else m) m) i = true → Nat.testBit m i = true ∨ ∃ e ∈ es, Region.binds .any e = true ∧ (e.on = i ∨ Nat.testBit (l.getD e.on 0) i = true)
  | [], m, h => .inl h
  | e :: es, m, h => by
    rw [List.foldl_cons] at h
    rcases mask_fold (ops := ops) h with h | ⟨x, hx, h1, h2⟩
    · cases hb : Region.binds .any e with
      | false => rw [hb] at h; exact .inl h
      | true =>
        rw [hb, cond_true, Nat.testBit_or, Nat.testBit_or, Nat.testBit_two_pow] at h
        simp only [Bool.or_eq_true, decide_eq_true_eq] at h
        rcases h with h | h | h
        · exact .inl h
        · exact .inr ⟨e, List.mem_cons_self, hb, .inl h⟩
        · exact .inr ⟨e, List.mem_cons_self, hb, .inr h⟩
    · exact .inr ⟨x, List.mem_cons_of_mem _ hx, h1, h2⟩
theorem masks_len {ops : Array Oper} : ∀ n, (masks ops n).length = n
  | 0 => rfl
  | n + 1 => by
    show (masks ops n ++ [_]).length = n + 1
    rw [List.length_append, masks_len n]
    rfl
theorem masks_sound {ops : Array Oper} {L : Array Bool} (hD : Down ops L) {i : Nat} : ∀ (n j : Nat), Nat.testBit ((masks ops n).getD j 0) i = true → (∀ oj, ops[j]? = some oj → ∀ e ∈ oj.after, Region.binds .any e = true → L.getD e.on false = true) → L.getD i false = true
  | 0, j, h, _ => by simp [masks] at h
  | n + 1, j, h, hj => by
    have hl := masks_len (ops := ops) n
    rw [List.getD_eq_getElem?_getD] at h
    rcases Nat.lt_or_ge j n with hjn | hjn
    · have e : (masks ops (n + 1))[j]? = (masks ops n)[j]? := List.getElem?_append_left (by omega)
      rw [e, ← List.getD_eq_getElem?_getD] at h
      exact masks_sound hD n j h hj
    · rcases Nat.lt_or_ge n j with hnj | hnj
      · have e : (masks ops (n + 1))[j]? = none := List.getElem?_eq_none (by rw [masks_len]; omega)
        rw [e] at h
        simp at h
      · have : j = n := by omega
        subst this
        have e : (masks ops (j + 1))[j]? = some (maskOf ops (masks ops j) j) := by
          show (masks ops j ++ [_])[j]? = _
          rw [List.getElem?_append_right (by omega), hl, Nat.sub_self]
          rfl
        rw [e, Option.getD_some] at h
        unfold maskOf at h
        cases ho : ops[j]? with
        | none => rw [ho] at h; simp at h
        | some o =>
          rw [ho] at h
          rcases mask_fold (ops := ops) h with h | ⟨x, hx, h1, h2⟩
          · simp at h
          · have hx' : x ∈ o.after := Array.mem_toList_iff.1 hx
            have hdone := hj o ho x hx' h1
            rcases h2 with h2 | h2
            · rw [← h2]
              exact hdone
            · exact masks_sound hD j x.on h2 fun ox hox e he hb => hD x.on ox hox hdone e he hb
def AnyH (P : Program) (C : FuncId → List Value → List AObj → (Value → List AObj → Prop) → Prop) (N : Nat) (ops : Array Oper) (S : List AObj → Prop) : Nat → Array Bool → RG → List AObj → (RG → List AObj → Prop) → Prop
  | 0, L, f, h, K => Region.ready .any ops L = [] ∧ K f h
  | n + 1, L, f, h, K => (Region.ready .any ops L = [] → K f h) ∧ ∀ i ∈ Region.ready .any ops L, ∀ o, ops[i]? = some o → (∀ t, o.dst = some t → t < N) ∧
      opM P C ops o f.r h fun v h' => (sNeed P ops i o = true → S h') ∧ AnyH P C N ops S n (L.setIfInBounds i true) (f.putO o.dst v) h' K
def Apart (ops : Array Oper) (i : Nat) (oi : Oper) (L : Array Bool) : Prop :=
  ∀ j oj, ops[j]? = some oj → j ≠ i → L.getD j true = false → (∀ e ∈ oj.after, Region.binds .any e = true → e.on ≠ i) → oi.apart ops oj = true
theorem putO_r {f : RG} {d : Option Nat} {v : Value} {t : Nat} (h : d ≠ some t) : (f.putO d v).r t = f.r t := by
  cases d with
  | none => rfl
  | some d =>
    have : (t == d) = false := by
      have : t ≠ d := fun e => h (by rw [e])
      simpa using this
    simp [RG.putO, RG.p, this]
theorem putO_comm (f : RG) {x y : Option Nat} (v u : Value) (h : ∀ d, x = some d → y ≠ some d) : (f.putO x v).putO y u = (f.putO y u).putO x v := by
  cases x with
  | none => rfl
  | some d =>
    cases y with
    | none => rfl
    | some e =>
      have hde : d ≠ e := fun he => h d rfl (by rw [he])
      simp only [RG.putO, RG.p]
      congr 1
      funext t
      by_cases h1 : t = d
      · subst h1
        have : (t == e) = false := by simpa using hde
        simp [this]
      · have : (t == d) = false := by simpa using h1
        simp [this]
theorem set_comm {L : Array Bool} {i j : Nat} : (L.setIfInBounds i true).setIfInBounds j true = (L.setIfInBounds j true).setIfInBounds i true := by
  by_cases h : i = j
  · rw [h]
  · exact Array.setIfInBounds_comm _ _ h
theorem need_free {j : Nat} {o : Oper} (hf : isFree P o = true) : sNeed P ops j o = false := by
  unfold sNeed sFine sOld
  rw [hf]
  cases fineR P ops <;> rfl
theorem need_read {L : Array Bool} {i j : Nat} {oi oj : Oper} (hD : Down ops L) (hi : ops[i]? = some oi) (hij : i ≠ j) (hr : isRead oi.op = true) (hfj : isFree P oj = false) (hil : L.getD i true = false)
    (haft : ∀ e ∈ oj.after, Region.binds .any e = true → e.on ≠ i) (hrd : ∀ ox, ops[j]? = some ox → ∀ e ∈ ox.after, Region.binds .any e = true → L.getD e.on false = true) : sNeed P ops j oj = true := by
  have hlt : i < ops.size := by
    rcases Nat.lt_or_ge i ops.size with hlt | hlt
    · exact hlt
    · rw [Array.getElem?_eq_none hlt] at hi
      cases hi
  have hne : (i != j) = true := by simpa using hij
  unfold sNeed
  cases fineR P ops with
  | true =>
    rw [cond_true]
    unfold sFine
    rw [hfj]
    simp only [Bool.not_false, Bool.true_and, List.any_eq_true]
    refine ⟨i, List.mem_range.2 hlt, ?_⟩
    rw [hne, hi]
    simp only [hr, Bool.true_and, Bool.not_eq_true']
    cases ht : Nat.testBit ((masks ops ops.size).getD j 0) i with
    | false => rfl
    | true =>
      exfalso
      have h1 := masks_sound hD _ j ht hrd
      rw [Array.getD_eq_getD_getElem?] at h1 hil
      cases hx : L[i]? with
      | none => rw [hx] at hil; cases hil
      | some b => rw [hx] at h1 hil; simp at h1 hil; rw [h1] at hil; cases hil
  | false =>
    rw [cond_false]
    unfold sOld
    rw [hfj]
    simp only [Bool.not_false, Bool.true_and, List.any_eq_true]
    refine ⟨i, List.mem_range.2 hlt, ?_⟩
    rw [hne, hi]
    simp only [hr, Bool.true_and, Bool.not_eq_true', Array.any_eq_false]
    intro x hx hh
    simp only [Bool.and_eq_true, beq_iff_eq] at hh
    exact haft _ (Array.getElem_mem hx) hh.1 hh.2
theorem AnyH_take {S : List AObj → Prop} {i : Nat} {oi : Oper} {v : Value} {K : RG → List AObj → Prop} (hi : ops[i]? = some oi) (hN : ∀ t, oi.dst = some t → t < N) (hfr : isFree P oi = true) :
    ∀ (n : Nat) (L : Array Bool) (f : RG) (h : List AObj), Down ops L → Apart ops i oi L → i ∈ Region.ready .any ops L → (isRead oi.op = true → S h) →
      (∀ h1 (K1 : Value → List AObj → Prop), (isRead oi.op = true → S h1) → K1 v h1 → opG P C ops oi f.r h1 K1) → AnyH P C N ops S n (L.setIfInBounds i true) (f.putO oi.dst v) h K → AnyH P C N ops S (n + 1) L f h K := by
  intro n
  induction n with
  | zero =>
    intro L f h hD hap hir hS hY hA
    refine ⟨fun e => (by rw [e] at hir; cases hir), fun j hj oj hoj => ?_⟩
    by_cases hji : j = i
    · subst hji
      rw [hi] at hoj
      cases hoj
      refine ⟨hN, fun u h' => u = v ∧ h' = h, hY h _ hS ⟨rfl, rfl⟩, ?_⟩
      rintro u h' ⟨rfl, rfl⟩
      exact ⟨fun e => (by rw [need_free hfr] at e; cases e), hA⟩
    · have := ready_mono hj hji
      rw [hA.1] at this
      cases this
  | succ n ih =>
    intro L f h hD hap hir hS hY hA
    refine ⟨fun e => (by rw [e] at hir; cases hir), fun j hj oj hoj => ?_⟩
    by_cases hji : j = i
    · subst hji
      rw [hi] at hoj
      cases hoj
      refine ⟨hN, fun u h' => u = v ∧ h' = h, hY h _ hS ⟨rfl, rfl⟩, ?_⟩
      rintro u h' ⟨rfl, rfl⟩
      exact ⟨fun e => (by rw [need_free hfr] at e; cases e), hA⟩
    · obtain ⟨hjN, K', hK', hsub⟩ := hA.2 j (ready_mono hj hji) oj hoj
      have hnl : L.getD j true = false := by
        rw [mem_ready] at hj
        exact hj.1
      have hil : L.getD i true = false := by
        rw [mem_ready] at hir
        exact hir.1
      have haft : ∀ e ∈ oj.after, Region.binds .any e = true → e.on ≠ i := by
        intro e he hb hei
        rw [mem_ready] at hj
        obtain ⟨_, o, ho, hall⟩ := hj
        rw [hoj] at ho
        cases ho
        have h1 := hall e he hb
        rw [hei] at h1
        rw [Array.getD_eq_getD_getElem?] at h1 hil
        cases hx : L[i]? with
        | none => rw [hx] at hil; cases hil
        | some b => rw [hx] at h1 hil; simp at h1 hil; rw [h1] at hil; cases hil
      obtain ⟨ap1, ap2, ap3⟩ := Oper.apart_spec (hap j oj hoj hji hnl haft)
      have back : ∀ t ∈ oj.looksAt ops, (f.putO oi.dst v).r t = f.r t := fun t ht => putO_r fun e => ap1 t e ht
      have hKj := opG_congr back hK'
      refine ⟨hjN, ?_⟩
      have fin : ∀ u h', (isRead oi.op = true → S h') → ((sNeed P ops j oj = true → S h') ∧ AnyH P C N ops S n ((L.setIfInBounds i true).setIfInBounds j true) ((f.putO oi.dst v).putO oj.dst u) h' K) →
          (sNeed P ops j oj = true → S h') ∧ AnyH P C N ops S (n + 1) (L.setIfInBounds j true) (f.putO oj.dst u) h' K := by
        rintro u h' hS' ⟨hs, hA'⟩
        refine ⟨hs, ih (L.setIfInBounds j true) (f.putO oj.dst u) h' (down_set hD hj) ?_ (ready_mono hir (fun e => hji e.symm)) hS' (fun h1 K1 hs1 k1 => ?_) ?_⟩
        · intro x ox hx hxi hxl hxa
          refine hap x ox hx hxi ?_ hxa
          by_cases hxj : x = j
          · rw [hxj]; exact hnl
          · rw [getD_set_ne true (Ne.symm hxj)] at hxl
            exact hxl
        · refine opG_congr (fun t ht => ?_) (hY h1 K1 hs1 k1)
          exact (putO_r fun e => ap3 t e ht).symm
        · rw [set_comm, ← putO_comm f v u ap2]
          exact hA'
      cases hfj : isFree P oj with
      | true =>
        obtain ⟨u, a, b⟩ := opG_free hfj hKj
        refine ⟨fun u' h' => u' = u ∧ h' = h, b h _ (fun _ _ => rfl) ⟨rfl, rfl⟩, ?_⟩
        rintro u' h' ⟨rfl, rfl⟩
        exact fin _ _ hS (hsub _ _ a)
      | false =>
        refine ⟨K', hKj, fun u h' k => fin u h' (fun hr => ?_) (hsub _ _ k)⟩
        refine (hsub _ _ k).1 ?_
        refine need_read hD hi (fun e => hji e.symm) hr hfj hil (fun e he hb hei => haft e he hb hei) ?_
        intro ox hox e he hb
        rw [mem_ready] at hj
        obtain ⟨_, o, ho, hall⟩ := hj
        rw [hox] at ho
        cases ho
        exact hall e he hb
end
def cnd (v : Value) (A B : Prop) : Prop :=
  match v with
  | .bool b => bif b then A else B
  | _ => False
abbrev Dec := List (Nat × Option Bool)
def dfind (j : Nat) : Dec → Option (Option Bool)
  | [] => none
  | (i, b) :: l => bif i == j then some b else dfind j l
def dstOf (ops : Array Oper) (j : Nat) : Option Nat :=
  match ops[j]? with
  | some o => o.dst
  | none => none
def goG (ops : Array Oper) (dec : Dec) (o : Oper) (f : RG) (A : Bool → Dec → RG → Prop) : Prop :=
  match o.guard with
  | none => A true dec f
  | some (j, want) => match dfind j dec with
    | some (some b) => A (b == want) dec f
    | some none => A false dec f
    | none => match dstOf ops j with
      | some t => cnd (f.r t) (A (true == want) ((j, some true) :: dec) (f.p t (.bool true))) (A (false == want) ((j, some false) :: dec) (f.p t (.bool false)))
      | none => False
def forget (ops : Array Oper) (d : Option Nat) (dec : Dec) : Dec :=
  match d with
  | none => dec
  | some d => dec.filter fun x => !(dstOf ops x.1 == some d)
def skipD (ops : Array Oper) (i : Nat) (d : Option Nat) (dec : Dec) : Dec :=
  match d with
  | none => dec
  | some d => (i, none) :: forget ops (some d) dec
def dstOk (N : Nat) (o : Oper) : Bool :=
  match o.dst with
  | some d => Nat.blt d N
  | none => true
abbrev CT := FuncId → List Value → List AObj → (Value → List AObj → Prop) → Prop
def opsW (P : Program) (C : CT) (N : Nat) (ops : Array Oper) : List Nat → Dec → RG → List AObj → (RG → List AObj → Prop) → Prop
  | [], _, f, h, K => K f h
  | i :: l, dec, f, h, K => match ops[i]? with
    | some o => bif dstOk N o then goG ops dec o f fun w dec f =>
        bif w then opW P C o f.r h fun v h' => opsW P C N ops l (forget ops o.dst dec) (f.putO o.dst v) h' K
        else opsW P C N ops l (skipD ops i o.dst dec) (f.putO o.dst undef) h K
      else False
    | none => False
def SameB (B : Option (List Nat)) (h0 h1 : List AObj) : Prop :=
  match B with
  | none => h1 = h0
  | some B => ∀ b ∈ B, h1[b]? = h0[b]?
def RdOk (B : Option (List Nat)) (x : Option Nat) : Prop :=
  match B, x with
  | some B, some b => b ∈ B
  | _, _ => True
def apartB (ops : Array Oper) (i : Nat) (oi : Oper) (L : Array Bool) : Bool :=
  (List.range ops.size).all fun j => match ops[j]? with
    | none => true
    | some oj => j == i || L.getD j true || (oj.after.any fun e => Region.binds .any e && e.on == i) || oi.apart ops oj
def pickN (P : Program) (ops : Array Oper) (L : Array Bool) : Option Nat :=
  (Region.ready .any ops L).find? fun i => match ops[i]? with
    | some o => isFree P o && apartB ops i o L
    | none => false
def allOf : List Nat → (Nat → Prop) → Prop
  | [], _ => True
  | [i], A => A i
  | i :: l, A => A i ∧ allOf l A
def anyW (P : Program) (C : CT) (N : Nat) (ops : Array Oper) (B : Option (List Nat)) (h0 : List AObj) : Nat → Array Bool → Bool → Dec → RG → List AObj → (RG → List AObj → Prop) → Prop
  | 0, L, _, _, f, h, K => bif (Region.ready .any ops L).isEmpty then K f h else False
  | n + 1, L, sok, dec, f, h, K => match pickN P ops L with
    | some i => match ops[i]? with
      | some o => bif dstOk N o && (!isRead o.op || sok) then goG ops dec o f fun w dec f =>
          bif w then opW P C o f.r h fun v _ =>
            bif isRead o.op && B.isSome then RdOk B (readOf o.op f.r) ∧ anyW P C N ops B h0 n (L.setIfInBounds i true) sok (forget ops o.dst dec) (f.putO o.dst v) h K
            else anyW P C N ops B h0 n (L.setIfInBounds i true) sok (forget ops o.dst dec) (f.putO o.dst v) h K
          else anyW P C N ops B h0 n (L.setIfInBounds i true) sok (skipD ops i o.dst dec) (f.putO o.dst undef) h K
        else False
      | none => False
    | none => bif (Region.ready .any ops L).isEmpty then K f h else allOf (Region.ready .any ops L) fun i => match ops[i]? with
      | some o => bif dstOk N o then goG ops dec o f fun w dec f =>
          bif w then opW P C o f.r h fun v h' =>
            bif sNeed P ops i o then SameB B h0 h' ∧ anyW P C N ops B h0 n (L.setIfInBounds i true) true (forget ops o.dst dec) (f.putO o.dst v) h' K
            else anyW P C N ops B h0 n (L.setIfInBounds i true) false (forget ops o.dst dec) (f.putO o.dst v) h' K
          else bif sNeed P ops i o && !sok then False else anyW P C N ops B h0 n (L.setIfInBounds i true) sok (skipD ops i o.dst dec) (f.putO o.dst undef) h K
        else False
      | none => False
def still (P : Program) (ops : Array Oper) : Bool := (List.range ops.size).all fun i => match ops[i]? with
  | some o => !sNeed P ops i o
  | none => true
def drawW (P : Program) (C : CT) (N : Nat) (ops : Array Oper) (f : RG) (h : List AObj) (K : RG → List AObj → Prop) : Prop :=
  bif still P ops then anyW P C N ops none h ops.size (Array.replicate ops.size false) true [] f h K
  else ∃ B, anyW P C N ops (some B) h ops.size (Array.replicate ops.size false) true [] f h K
section
variable {P : Program} {C : CT} {N : Nat} {ops : Array Oper} {f : RG} {h : List AObj}
def dval : Option Bool → Value
  | some b => .bool b
  | none => undef
def decOk (ops : Array Oper) (dec : Dec) (f : RG) : Prop := ∀ j b, dfind j dec = some b → ∃ t, dstOf ops j = some t ∧ f.r t = dval b
theorem bind_dst (j : Nat) : (ops[j]?).bind (·.dst) = dstOf ops j := by
  unfold dstOf
  cases ops[j]? <;> rfl
theorem put_self {t : Nat} {v : Value} (e : f.r t = v) : f.p t v = f := by
  obtain ⟨r, ds⟩ := f
  simp only [RG.p, RG.mk.injEq, and_true]
  funext x
  by_cases hx : x = t
  · subst hx
    simp only [BEq.rfl, cond_true]
    exact e.symm
  · have : (x == t) = false := by simpa using hx
    simp [this]
theorem goG_out {dec : Dec} {o : Oper} {A : Bool → Dec → RG → Prop} (hd : decOk ops dec f) (hg : goG ops dec o f A) : ∃ w dec', decOk ops dec' f ∧ gd ops o f.r = some w ∧ A w dec' f := by
  unfold goG at hg
  unfold gd
  split at hg
  · rename_i e
    try rw [e]
    exact ⟨true, dec, hd, rfl, hg⟩
  · rename_i j want e
    try rw [e]
    simp only [bind_dst]
    split at hg
    · rename_i b hb
      obtain ⟨t, h1, h2⟩ := hd j _ hb
      exact ⟨_, dec, hd, by rw [h1]; simp only [h2, dval], hg⟩
    · rename_i hb
      obtain ⟨t, h1, h2⟩ := hd j _ hb
      exact ⟨_, dec, hd, by rw [h1]; simp only [h2, dval, undef], hg⟩
    · split at hg
      · rename_i t ht
        unfold cnd at hg
        split at hg
        · rename_i b hb
          have nd : ∀ b', f.r t = .bool b' → decOk ops ((j, some b') :: dec) f := by
            intro b' hb' i c hc
            unfold dfind at hc
            cases hij : j == i with
            | true =>
              rw [hij] at hc
              simp only [cond_true, Option.some.injEq] at hc
              have : j = i := by simpa using hij
              subst this
              subst hc
              exact ⟨t, ht, hb'⟩
            | false =>
              rw [hij] at hc
              exact hd i c hc
          cases b with
          | true =>
            have := hg
            simp only [cond_true] at this
            rw [put_self hb] at this
            exact ⟨_, _, nd _ hb, by rw [ht]; simp only [hb], this⟩
          | false =>
            have := hg
            simp only [cond_false] at this
            rw [put_self hb] at this
            exact ⟨_, _, nd _ hb, by rw [ht]; simp only [hb], this⟩
        · exact hg.elim
      · exact hg.elim
theorem dfind_filter {p : Nat × Option Bool → Bool} : ∀ {dec : Dec} {j : Nat} {b : Option Bool}, dfind j (dec.filter p) = some b → (∀ x y y', p (x, y) = p (x, y')) → dfind j dec = some b ∧ p (j, b) = true
  | [], j, b, h, _ => by cases h
  | (i, c) :: l, j, b, h, hp => by
    rw [List.filter_cons] at h
    unfold dfind
    split at h
    · rename_i hpc
      unfold dfind at h
      cases hij : i == j with
      | true =>
        rw [hij] at h
        simp only [cond_true, Option.some.injEq] at h
        have : i = j := by simpa using hij
        subst this
        subst h
        exact ⟨rfl, hpc⟩
      | false =>
        rw [hij] at h
        exact dfind_filter h hp
    · rename_i hpc
      obtain ⟨h1, h2⟩ := dfind_filter h hp
      cases hij : i == j with
      | true =>
        have : i = j := by simpa using hij
        subst this
        exfalso
        apply hpc
        rw [hp i c b]
        exact h2
      | false => exact ⟨h1, h2⟩
theorem decOk_put {dec : Dec} {d : Option Nat} {v : Value} (hd : decOk ops dec f) : decOk ops (forget ops d dec) (f.putO d v) := by
  intro j b hj
  cases d with
  | none => exact hd j b hj
  | some d =>
    obtain ⟨h1, h2⟩ := dfind_filter hj (fun _ _ _ => rfl)
    obtain ⟨t, ht, hv⟩ := hd j b h1
    refine ⟨t, ht, ?_⟩
    rw [putO_r]
    · exact hv
    · intro e
      cases e
      simp [ht] at h2
theorem decOk_skip {dec : Dec} {i : Nat} {o : Oper} (ho : ops[i]? = some o) (hd : decOk ops dec f) : decOk ops (skipD ops i o.dst dec) (f.putO o.dst undef) := by
  unfold skipD
  cases hdst : o.dst with
  | none => exact hd
  | some d =>
    intro j b hj
    unfold dfind at hj
    cases hij : i == j with
    | true =>
      rw [hij] at hj
      simp only [cond_true, Option.some.injEq] at hj
      have : i = j := by simpa using hij
      subst this
      subst hj
      refine ⟨d, by simp [dstOf, ho, hdst], ?_⟩
      simp [RG.putO, RG.p, dval]
    | false =>
      rw [hij] at hj
      exact decOk_put (d := some d) hd j b hj
theorem dstOk_lt {o : Oper} (h : dstOk N o = true) : ∀ t, o.dst = some t → t < N := by
  intro t ht
  unfold dstOk at h
  rw [ht] at h
  simpa using h
theorem allOf_mem {A : Nat → Prop} : ∀ {l : List Nat} {i : Nat}, allOf l A → i ∈ l → A i
  | [i], j, h, hm => by
    simp only [List.mem_singleton] at hm
    subst hm
    exact h
  | i :: k :: l, j, h, hm => by
    rcases List.mem_cons.1 hm with rfl | hm
    · exact h.1
    · exact allOf_mem h.2 hm
theorem opG_of {o : Oper} {r : Nat → Value} {K : Value → List AObj → Prop} {w : Bool} (hg : gd ops o r = some w) (hk : bif w then opW P C o r h K else K undef h) : opG P C ops o r h K := by
  unfold opG
  rw [hg]
  cases w <;> exact hk
theorem anyW_sound {B : Option (List Nat)} {h0 : List AObj} {K : RG → List AObj → Prop} : ∀ (n : Nat) (L : Array Bool) (sok : Bool) (dec : Dec) (f : RG) (h : List AObj), Down ops L → decOk ops dec f → (sok = true → SameB B h0 h) →
    anyW P C N ops B h0 n L sok dec f h K → AnyH P C N ops (SameB B h0) n L f h K := by
  intro n
  induction n with
  | zero =>
    intro L sok dec f h hD hd hs hw
    unfold anyW at hw
    cases he : (Region.ready .any ops L).isEmpty with
    | true =>
      rw [he] at hw
      exact ⟨List.isEmpty_iff.1 he, hw⟩
    | false => rw [he] at hw; exact hw.elim
  | succ n ih =>
    intro L sok dec f h hD hd hs hw
    unfold anyW at hw
    split at hw
    · rename_i i hp
      have hir : i ∈ Region.ready .any ops L := List.mem_of_find?_eq_some hp
      have hpi := List.find?_some hp
      split at hw
      · rename_i o ho
        simp only [ho, Bool.and_eq_true] at hpi
        cases hc : dstOk N o && (!isRead o.op || sok) with
        | false => rw [hc] at hw; exact hw.elim
        | true =>
          rw [hc] at hw
          rw [cond_true] at hw
          simp only [Bool.and_eq_true, Bool.or_eq_true, Bool.not_eq_true'] at hc
          obtain ⟨w, dec', hd', hg, hw⟩ := goG_out hd hw
          have hap : Apart ops i o L := by
            intro j oj hoj hji hl ha
            have hall := hpi.2
            unfold apartB at hall
            rw [List.all_eq_true] at hall
            have hlt : j < ops.size := by
              rcases Nat.lt_or_ge j ops.size with hlt | hlt
              · exact hlt
              · rw [Array.getElem?_eq_none hlt] at hoj
                cases hoj
            have := hall j (List.mem_range.2 hlt)
            rw [hoj] at this
            simp only [hl, Bool.or_false, Bool.or_eq_true, beq_iff_eq, hji, false_or] at this
            rcases this with this | this
            · rw [Array.any_eq_true] at this
              obtain ⟨x, hx, he⟩ := this
              simp only [Bool.and_eq_true, beq_iff_eq] at he
              exact absurd he.2 (ha _ (Array.getElem_mem hx) he.1)
            · exact this
          have hSr : isRead o.op = true → SameB B h0 h := by
            intro hr
            rcases hc.2 with x | x
            · rw [hr] at x; cases x
            · exact hs x
          cases w with
          | false =>
            exact AnyH_take ho (dstOk_lt hc.1) hpi.1 n L f h hD hap hir hSr (fun h1 K1 _ k1 => opG_of hg k1) (ih _ sok _ _ h (down_set hD hir) (decOk_skip ho hd') hs hw)
          | true =>
            have hop : opG P C ops o f.r h fun v _ => (isRead o.op = true → RdOk B (readOf o.op f.r)) ∧ anyW P C N ops B h0 n (L.setIfInBounds i true) sok (forget ops o.dst dec') (f.putO o.dst v) h K := by
              refine opG_of hg ?_
              simp only [cond_true] at hw ⊢
              cases hr : isRead o.op && B.isSome with
              | true =>
                simp only [hr, cond_true] at hw
                simp only [Bool.and_eq_true] at hr
                simp only [hr.1, true_implies]
                exact hw
              | false =>
                simp only [hr, cond_false] at hw
                have hrd : isRead o.op = true → RdOk B (readOf o.op f.r) := by
                  intro hx
                  cases B with
                  | none => exact trivial
                  | some B => simp [hx] at hr
                have e := eq_true hrd
                simp only [e, true_and]
                exact hw
            obtain ⟨v, ⟨hrd, hv⟩, hrep⟩ := opG_free hpi.1 hop
            refine AnyH_take ho (dstOk_lt hc.1) hpi.1 n L f h hD hap hir hSr (fun h1 K1 hs1 k1 => hrep h1 K1 (fun b hb => ?_) k1) (ih _ sok _ _ h (down_set hD hir) (decOk_put hd') hs hv)
            have hr : isRead o.op = true := by
              cases hx : isRead o.op with
              | true => rfl
              | false => rw [readOf_none hx] at hb; cases hb
            have sh := hSr hr
            have sh1 := hs1 hr
            have hrd := hrd hr
            cases B with
            | none =>
              simp only [SameB] at sh sh1
              rw [sh, sh1]
            | some B =>
              rw [hb] at hrd
              rw [sh1 b hrd, sh b hrd]
      · exact hw.elim
    · cases he : (Region.ready .any ops L).isEmpty with
      | true =>
        rw [he] at hw
        have hnil := List.isEmpty_iff.1 he
        exact ⟨fun _ => hw, fun i hi => (by rw [hnil] at hi; cases hi)⟩
      | false =>
        rw [he] at hw
        rw [cond_false] at hw
        refine ⟨fun e => (by rw [e] at he; cases he), fun i hi o ho => ?_⟩
        have hx := allOf_mem hw hi
        simp only [ho] at hx
        cases hc : dstOk N o with
        | false => rw [hc] at hx; exact hx.elim
        | true =>
          rw [hc, cond_true] at hx
          refine ⟨dstOk_lt hc, ?_⟩
          obtain ⟨w, dec', hd', hg, hx⟩ := goG_out hd hx
          cases w with
          | true =>
            rw [cond_true] at hx
            refine ⟨_, opG_of hg hx, fun v h' k => ?_⟩
            cases hn : sNeed P ops i o with
            | true =>
              rw [hn, cond_true] at k
              exact ⟨fun _ => k.1, ih _ true _ _ h' (down_set hD hi) (decOk_put hd') (fun _ => k.1) k.2⟩
            | false =>
              rw [hn, cond_false] at k
              exact ⟨fun e => (by cases e), ih _ false _ _ h' (down_set hD hi) (decOk_put hd') (fun e => by cases e) k⟩
          | false =>
            rw [cond_false] at hx
            cases hn : sNeed P ops i o && !sok with
            | true => rw [hn] at hx; exact hx.elim
            | false =>
              rw [hn, cond_false] at hx
              refine ⟨fun v h' => v = undef ∧ h' = h, opG_of hg ⟨rfl, rfl⟩, ?_⟩
              rintro v h' ⟨rfl, rfl⟩
              refine ⟨fun e => ?_, ih _ sok _ _ h' (down_set hD hi) (decOk_skip ho hd') hs hx⟩
              rw [e] at hn
              simp only [Bool.true_and, Bool.not_eq_false'] at hn
              exact hs hn
end
section
variable {P : Program} {main : Bool} {J : JT} {N n0 : Nat} {ops : Array Oper} {f : RG} {h : List AObj} {fn : FuncId} {Q : QT} {i : Nat} {rest : List Nat} {o : Oper}
theorem SemOps_cons (hJ : Closed P main J) (ho : ops[i]? = some o) (hd : ∀ t, o.dst = some t → t < N) {K : Value → List AObj → Prop} (hop : opG P (Good P J) ops o f.r h K) (hs : ∀ v h', K v h' → SemOps J N n0 fn ops rest (f.putO o.dst v) h' Q) : SemOps J N n0 fn ops (i :: rest) f h Q := by
  intro b a k cs L ρ FC w ft h1 h2 h3 h4 h5 h6 hc
  unfold opG at hop
  split at hop
  · rename_i hg
    refine step_any hJ h2 ho hg hd h4 h5 hop fun v h' ρ' w' ft' a' hK A' H' hu hl => ?_
    exact hs v h' hK b a' k cs L ρ' FC w' ft' h1 h2 h3 A' H' (Nat.le_trans h6 hl) fun e f2 h2' ρ2 w2 ft2 a2 q r1 r2 r3 r4 => hc e f2 h2' ρ2 w2 ft2 a2 q r1 r2 (Env.upto_trans (Env.upto_le hu h6) r3) r4
  · rename_i hg
    refine step_skip hJ ho hg h4 ?_
    exact hs _ _ hop b _ k cs L ρ FC w ft h1 h2 h3 (act_put h4 hd (vrel_undef _ _)) h5 h6 hc
  · exact hop.elim
theorem SemOps_of (hJ : Closed P main J) : ∀ (todo : List Nat) {dec : Dec} {f : RG} {h : List AObj}, decOk ops dec f → opsW P (Good P J) N ops todo dec f h (fun f h => Q .normal f h) → SemOps J N n0 fn ops todo f h Q
  | [], _, f, h, _, hq => SemOps_nil hJ hq
  | i :: todo, dec, f, h, hdec, hq => by
    unfold opsW at hq
    cases ho : ops[i]? with
    | none => rw [ho] at hq; exact hq.elim
    | some o =>
      rw [ho] at hq
      simp only at hq
      cases hc : dstOk N o with
      | false => rw [hc] at hq; exact hq.elim
      | true =>
        rw [hc, cond_true] at hq
        obtain ⟨w, dec', hd', hg, hq⟩ := goG_out hdec hq
        cases w with
        | true =>
          rw [cond_true] at hq
          exact SemOps_cons hJ ho (dstOk_lt hc) (opG_of hg hq) fun v h' k => SemOps_of hJ todo (decOk_put hd') k
        | false =>
          rw [cond_false] at hq
          refine SemOps_cons hJ ho (dstOk_lt hc) (K := fun v h' => v = undef ∧ h' = h) (opG_of hg ⟨rfl, rfl⟩) ?_
          rintro v h' ⟨rfl, rfl⟩
          exact SemOps_of hJ todo (decOk_skip ho hd') hq
theorem Sem_region_text (hJ : Closed P main J) {id : Nat} (hq : opsW P (Good P J) N ops (List.range ops.size) [] f h (fun f h => Q .normal f h)) : Sem J N n0 fn (.region id ops false) f h Q :=
  Sem_region hJ (SemOps_of hJ _ (fun j b e => by cases e) hq)
theorem SemOps_any (hJ : Closed P main J) {S : List AObj → Prop} : ∀ (n t : Nat) (L : Array Bool) (f : RG) (h : List AObj), AnyH P (Good P J) N ops S n L f h (fun f h => Q .normal f h) → SemOps J N n0 fn ops (Region.linearise.go .any ops n t L []) f h Q := by
  intro n
  induction n with
  | zero =>
    intro t L f h hA
    simp only [Region.linearise.go, List.reverse_nil]
    exact SemOps_nil hJ hA.2
  | succ n ih =>
    intro t L f h hA
    obtain ⟨h₀, h₁⟩ := hA
    simp only [Region.linearise.go]
    change SemOps J N n0 fn ops (match (Region.ready .any ops L)[t % (Region.ready .any ops L).length]? with
      | some i => Region.linearise.go .any ops n (t / (Region.ready .any ops L).length) (L.setIfInBounds i true) [i]
      | none => [].reverse) f h Q
    cases hi : (Region.ready .any ops L)[t % (Region.ready .any ops L).length]? with
    | none =>
      have hnil : Region.ready .any ops L = [] := by
        cases hr : Region.ready .any ops L with
        | nil => rfl
        | cons x xs =>
          rw [hr] at hi
          have hlt : t % (x :: xs).length < (x :: xs).length := Nat.mod_lt _ (by simp)
          simp at hi
          simp at hlt
          omega
      exact SemOps_nil hJ (h₀ hnil)
    | some i =>
      simp only []
      rw [linearise_go_acc, List.reverse_singleton, List.singleton_append]
      have hm := List.mem_of_getElem? hi
      have hm' := hm
      rw [mem_ready] at hm'
      obtain ⟨_, o, ho, _⟩ := hm'
      obtain ⟨hN, K', hK', hsub⟩ := h₁ i hm o ho
      exact SemOps_cons hJ ho hN hK' fun v h' k => ih _ _ _ _ (hsub v h' k).2
theorem Sem_region_draw (hJ : Closed P main J) (hm : P.follows .mixedOrders = true) {id : Nat} (hq : drawW P (Good P J) N ops f h (fun f h => Q .normal f h)) : Sem J N n0 fn (.region id ops true) f h Q := by
  have hA : ∃ S, AnyH P (Good P J) N ops S ops.size (Array.replicate ops.size false) f h (fun f h => Q .normal f h) := by
    unfold drawW at hq
    cases hs : still P ops with
    | true =>
      rw [hs] at hq
      exact ⟨_, anyW_sound (B := none) (h0 := h) _ _ true [] f h down_init (fun j b e => by cases e) (fun _ => rfl) hq⟩
    | false =>
      rw [hs] at hq
      obtain ⟨B, hq⟩ := hq
      exact ⟨_, anyW_sound (B := some B) (h0 := h) _ _ true [] f h down_init (fun j b e => by cases e) (fun _ b _ => rfl) hq⟩
  obtain ⟨S, hA⟩ := hA
  intro b a k cs L ρ FC w ft h1 h2 h3 h4 h5 h6 hc
  refine hJ.step rfl fun w₁ h₁ => ⟨G (b.at a (.inRegion ops (Region.schedule (P.follows .mixedOrders) ops (w₁.tape w₁.drawn (.order b.fn id))) :: k)) cs, { w₁ with drawn := w₁.drawn + 1 }, #[], ?_, rfl, (Stays.drawn ft w₁ _).guar (by simp), ?_⟩
  · simp [G, stepG, stepG.exec, FB.at, choose, Go.Sem.run, Question.forced, Question.cut]
  · rw [show ({ w₁ with drawn := w₁.drawn + 1 } : World).heap = w₁.heap from rfl, Foot.ext_self]
    have H₁ := (h5.rely h₁).of_drawn (w₁.drawn + 1)
    simp only [Region.schedule, hm, Bool.true_or, if_true]
    exact SemOps_any hJ _ _ _ _ _ hA b a k cs L ρ FC _ ft h1 h2 h3 h4 H₁ h6 hc
def W (P : Program) (J : JT) (N n0 : Nat) (fn : FuncId) : Code → RG → List AObj → QT → Prop
  | .skip, f, h, Q => Q .normal f h
  | .label _, f, h, Q => Q .normal f h
  | .ret, f, h, Q => Q .ret f h
  | .exit id, f, h, Q => Q (.exit id) f h
  | .seq a b, f, h, Q => W P J N n0 fn a f h (thenK (fun f h => W P J N n0 fn b f h Q) Q)
  | .cond c a b, f, h, Q => cnd (ev f.r c) (W P J N n0 fn a f h Q) (W P J N n0 fn b f h Q)
  | .block id a, f, h, Q => W P J N n0 fn a f h (blockK id Q)
  | .scope a, f, h, Q => W P J N n0 fn a f h Q
  | .region _ ops draw, f, h, Q => bif draw then drawW P (Good P J) N ops f h (fun f h => Q .normal f h) else opsW P (Good P J) N ops (List.range ops.size) [] f h (fun f h => Q .normal f h)
  | c, f, h, Q => Sem J N n0 fn c f h Q
theorem W_sound (hJ : Closed P main J) (hm : P.follows .mixedOrders = true) : ∀ (c : Code) {f : RG} {h : List AObj} {Q : QT}, W P J N n0 fn c f h Q → Sem J N n0 fn c f h Q
  | .skip, f, h, Q, hw => Sem_skip hJ hw
  | .label _, f, h, Q, hw => Sem_label hJ hw
  | .ret, f, h, Q, hw => Sem_ret hw
  | .exit id, f, h, Q, hw => Sem_exit hJ hw
  | .seq a b, f, h, Q, hw => by
    refine Sem_seq hJ ((W_sound hJ hm a hw).mono fun e f h q => ?_)
    cases e with
    | normal => exact W_sound hJ hm b q
    | _ => exact q
  | .cond c a b, f, h, Q, hw => by
    simp only [W, cnd] at hw
    split at hw
    · rename_i t ht
      refine Sem_cond hJ ht ?_
      cases t with
      | true => exact W_sound hJ hm a hw
      | false => exact W_sound hJ hm b hw
    · exact hw.elim
  | .block id a, f, h, Q, hw => Sem_block hJ (W_sound hJ hm a hw)
  | .scope a, f, h, Q, hw => Sem_scope hJ (W_sound hJ hm a hw)
  | .region id ops draw, f, h, Q, hw => by
    cases draw with
    | true => exact Sem_region_draw hJ hm hw
    | false => exact Sem_region_text hJ hw
  | .loop _, f, h, Q, hw => hw
  | .rangeFunc .., f, h, Q, hw => hw
  | .goto _, f, h, Q, hw => hw
  | .refuse _, f, h, Q, hw => hw
def codeOf (fn : Func) : Code := fn.body.getD .skip
theorem good_of_W (hJ : Closed P main J) (hm : P.follows .mixedOrders = true) {g : FuncId} {args : List Value} {K : Value → List AObj → Prop} {fn : Func} (hf : P.funcs[g]? = some fn) {c : Code} (hb : fn.body = some c) (hn : (fn.name == "runtime.NumGoroutine") = false) (ha : args.length ≤ fn.ntmps)
    (hs : heapOk h → W P J fn.ntmps h.length g c ⟨regs args, []⟩ h (RetQ P fn.results.toList h.length K)) : Good P J g args h K :=
  good_of_sem hJ hf hb hn ha fun ok => W_sound hJ hm c (hs ok)
end
def subC : List Nat → Code → Code
  | [], c => c
  | 0 :: p, .seq a _ => subC p a
  | _ :: p, .seq _ b => subC p b
  | 0 :: p, .cond _ a _ => subC p a
  | _ :: p, .cond _ _ b => subC p b
  | _ :: p, .block _ a => subC p a
  | _ :: p, .scope a => subC p a
  | _ :: p, .loop a => subC p a
  | 0 :: p, .rangeFunc _ _ a _ => subC p a
  | _ :: p, .rangeFunc _ _ _ b => subC p b
  | _, c => c
def contQ (P : Program) (J : JT) (N n0 : Nat) (fn : FuncId) : List Nat → Code → List (RG → List AObj → Prop) → QT → QT
  | 0 :: p, .seq a b, nx, Q => contQ P J N n0 fn p a nx (thenK (fun f h => W P J N n0 fn b f h Q) Q)
  | _ :: p, .seq _ b, nx, Q => contQ P J N n0 fn p b nx Q
  | 0 :: p, .cond _ a _, nx, Q => contQ P J N n0 fn p a nx Q
  | _ :: p, .cond _ _ b, nx, Q => contQ P J N n0 fn p b nx Q
  | _ :: p, .block id a, nx, Q => contQ P J N n0 fn p a nx (blockK id Q)
  | _ :: p, .scope a, nx, Q => contQ P J N n0 fn p a nx Q
  | _ :: p, .loop a, n :: nx, Q => contQ P J N n0 fn p a nx (thenK n Q)
  | _, _, _, Q => Q
def Gets {S : Type} (n0 : Nat) (I : S → RG → List AObj → Prop) (s : S) (f : RG) (h : List AObj) : Prop :=
  I s f h ∨ ∃ σ f' h', GCR n0 σ f h f' h' ∧ I s f' h'
def Nx {S : Type} (n0 : Nat) (μ : S → Nat) (I : S → RG → List AObj → Prop) (s : S) : RG → List AObj → Prop := fun f h =>
  ∃ s', μ s' < μ s ∧ Gets n0 I s' f h
section
variable {P : Program} {main : Bool} {J : JT} {N n0 : Nat} {f : RG} {h : List AObj} {fn : FuncId} {Q : QT}
theorem loop_rule (hJ : Closed P main J) (hm : P.follows .mixedOrders = true) {c b : Code} (hc : c = .loop b) {S : Type} (μ : S → Nat) (I : S → RG → List AObj → Prop)
    (hI : ∀ s f h, I s f h → heapOk h → n0 ≤ h.length → W P J N n0 fn b f h (thenK (Nx n0 μ I s) Q))
    {s : S} (hi : Gets n0 I s f h) : Sem J N n0 fn c f h Q := by
  subst hc
  have body : ∀ s f h, I s f h → Sem J N n0 fn b f h (thenK (fun f h => ∃ m', m' < μ s ∧ ∃ s, m' = μ s ∧ Gets n0 I s f h) Q) := by
    intro s f h hi
    refine Sem.ok fun ok hn => (W_sound hJ hm b (hI s f h hi ok hn)).mono fun e f h q => ?_
    cases e with
    | normal =>
      obtain ⟨s', hlt, g⟩ := q
      exact ⟨μ s', hlt, s', rfl, g⟩
    | _ => exact q
  refine Sem_loop hJ (fun m f h => ∃ s, m = μ s ∧ Gets n0 I s f h) ?_ (m := μ s) ⟨s, rfl, hi⟩
  rintro m f h ⟨s, rfl, hi | ⟨σ, f', h', g, hi⟩⟩
  · exact body s f h hi
  · exact Sem.gc g (body s f' h' hi)
end
def nuK : List Value → Prop → Prop
  | [], p => p
  | v :: vs, p => v ≠ unk ∧ nuK vs p
def retL (n0 : Nat) (K : Value → List AObj → Prop) (ds : List Nat) (vs : List Value) (h : List AObj) : Prop :=
  takeW ds h fun h => nuK vs (K (pack vs) h ∨ ∃ σ h' v, GC n0 σ h h' ∧ pack vs = sub σ v ∧ VOk h'.length v ∧ K v h')
def aNewS (n : Nat) (c : List Value) (h : List AObj) (K : Value → List AObj → Prop) : Prop := K (.slice (some ⟨h.length, 0, none⟩) n n) (h ++ [.cells c true 0])
def aNewM (h : List AObj) (K : Value → List AObj → Prop) : Prop := K (.map (some h.length)) (h ++ [.map [] true])
def aConvI (k : IntKind) (x : Value) (K : Value → Prop) : Prop :=
  match x with
  | .int _ n => K (.int k (k.wrap n))
  | _ => False
def aMkF (f : FuncId) (first cap : List Value) (K : Value → Prop) : Prop := ((first ++ cap).all one) = true ∧ K (.func (.func f) ⟨first⟩ ⟨cap⟩)
section
variable {P : Program} {t : TypeId} {K : Value → Prop} {H : Value → List AObj → Prop} {k : IntKind} {a b : Int} {p : Prop} [Decidable p] {A B : Prop} {h : List AObj}
theorem cnd_dec : cnd (.bool (decide p)) A B ↔ (p → A) ∧ (¬p → B) := by by_cases h : p <;> simp [cnd, h]
theorem cnd_ndec : cnd (.bool (!decide p)) A B ↔ (¬p → A) ∧ (p → B) := by by_cases h : p <;> simp [cnd, h]
theorem cnd_true : cnd (.bool true) A B ↔ A := by simp [cnd]
theorem cnd_false : cnd (.bool false) A B ↔ B := by simp [cnd]
theorem b_lss : aBin P .lss t (.int k a) (.int k b) K = K (.bool (decide (a < b))) := by simp [aBin, aInt]
theorem b_leq : aBin P .leq t (.int k a) (.int k b) K = K (.bool (decide (a ≤ b))) := by simp [aBin, aInt]
theorem b_gtr : aBin P .gtr t (.int k a) (.int k b) K = K (.bool (decide (a > b))) := by simp [aBin, aInt]
theorem b_geq : aBin P .geq t (.int k a) (.int k b) K = K (.bool (decide (a ≥ b))) := by simp [aBin, aInt]
theorem b_eql : aBin P .eql t (.int k a) (.int k b) K = K (.bool (decide (a = b))) := by simp [aBin, aInt]; rfl
theorem b_neq : aBin P .neq t (.int k a) (.int k b) K = K (.bool (decide (a ≠ b))) := by simp [aBin, aInt]; rfl
theorem wrap64 {n : Int} (h1 : -9223372036854775808 ≤ n) (h2 : n < 9223372036854775808) : IntKind.i64.wrap n = n := by
  simp only [IntKind.wrap, IntKind.bits, IntKind.signed]
  simp
  split <;> omega
theorem b_add (h : -9223372036854775808 ≤ a + b ∧ a + b < 9223372036854775808) : aBin P .add t (vint a) (vint b) K = K (vint (a + b)) := by simp [aBin, aInt, vint, wrap64 h.1 h.2]
theorem b_sub (h : -9223372036854775808 ≤ a - b ∧ a - b < 9223372036854775808) : aBin P .sub t (vint a) (vint b) K = K (vint (a - b)) := by simp [aBin, aInt, vint, wrap64 h.1 h.2]
theorem idx_ok {s b o n c : Nat} {j : Int} : aIdx s (.slice (some ⟨b, o, none⟩) n c) (vint j) K = ((0 ≤ j ∧ j < n) ∧ K (ptr b (o + j.toNat * s))) := rfl
theorem load_cell {b o s : Nat} {c : List Value} {wr : Bool} {sz : Nat} {v : Value} (hb : h[b]? = some (.cells c wr sz)) (hv : c[o]? = some v) (hn : kn1 v = true) {K : Value → Prop} : aLoad false s (ptr b o) h K = K v := by
  simp [aLoad, hb, hv, hn]
theorem store_cell {b o : Nat} {c : List Value} {sz : Nat} {v : Value} (hb : h[b]? = some (.cells c true sz)) (ho : o < c.length) (h1 : v.cells = #[v]) (h2 : one v = true) {K : List AObj → Prop} (hk : K (h.set b (.cells (c.set o v) true sz))) : aStore 1 (ptr b o) v h K := by
  simp [aStore, hb, h1, h2, wrAt]
  exact ⟨ho, hk⟩
theorem sub_id {n : Nat} {v : Value} (h : VOk n v) : sub id v = v := sub_same (n := n) (fun _ _ => rfl) v h
theorem gc_drop {n0 : Nat} {g : List AObj} (ok : heapOk h) (hn : n0 ≤ h.length) : GC n0 id (h ++ g) h :=
  ⟨hn, fun _ _ => rfl, fun i o hi => .inr (by
    rw [subO_same (σ := id) (n := h.length) (fun _ _ => rfl) (ok i o hi)]
    have : i < h.length := by
      rcases Nat.lt_or_ge i h.length with x | x
      · exact x
      · rw [List.getElem?_eq_none x] at hi; cases hi
    simp only [id]
    rw [List.getElem?_append_left this]
    exact hi), fun i j _ _ _ _ _ _ e => e, ok⟩
theorem retL_same {n0 : Nat} {vs : List Value} (hv : ∀ v ∈ vs, v ≠ unk) (hk : H (pack vs) h) : retL n0 H [] vs h := by
  unfold retL takeW
  have : ∀ (l : List Value) (p : Prop), (∀ v ∈ l, v ≠ unk) → p → nuK l p := by
    intro l
    induction l with
    | nil => intro p _ hp; exact hp
    | cons v l ih => intro p h hp; exact ⟨h v (by simp), ih p (fun u hu => h u (by simp [hu])) hp⟩
  exact this vs _ hv (.inl hk)
theorem retL_drop {n0 : Nat} {g : List AObj} {vs : List Value} (ok : heapOk h) (hn : n0 ≤ h.length) (hv : ∀ v ∈ vs, v ≠ unk) (hw : VOk h.length (pack vs)) (hk : H (pack vs) h) : retL n0 H [] vs (h ++ g) := by
  unfold retL takeW
  have : ∀ (l : List Value) (p : Prop), (∀ v ∈ l, v ≠ unk) → p → nuK l p := by
    intro l
    induction l with
    | nil => intro p _ hp; exact hp
    | cons v l ih => intro p h hp; exact ⟨h v (by simp), ih p (fun u hu => h u (by simp [hu])) hp⟩
  exact this vs _ hv (.inr ⟨id, h, pack vs, gc_drop ok hn, (sub_id hw).symm, hw, hk⟩)
def Sli (h : List AObj) (v : Value) (s n : Nat) (cells : List Value) : Prop :=
  ∃ base c, v = .slice base n c ∧ (cells.length = n * s ∧ kn cells = true) ∧ ((base = none ∧ n = 0) ∨ ∃ b o, base = some ⟨b, o, none⟩ ∧ (n = 0 ∨ ∃ cs wr sz, h[b]? = some (.cells cs wr sz) ∧ (cs.drop o).take (n * s) = cells))
theorem sli_len {v : Value} {s n : Nat} {cells : List Value} (hs : Sli h v s n cells) : aLenS v K = K (vint n) := by
  obtain ⟨base, c, rfl, _⟩ := hs
  rfl
theorem sli_get {v : Value} {s n : Nat} {cells : List Value} (hs : Sli h v s n cells) {i : Int} (hi : 0 ≤ i ∧ i < n) :
    ∃ b o cs wr sz c, v = .slice (some ⟨b, o, none⟩) n c ∧ h[b]? = some (.cells cs wr sz) ∧ ∀ j x, cells[j]? = some x → cs[o + j]? = some x := by
  obtain ⟨base, c, rfl, ⟨hl, hkn⟩, hc⟩ := hs
  rcases hc with ⟨_, h0⟩ | ⟨b, o, rfl, h0 | ⟨cs, wr, sz, hb, rfl⟩⟩
  · omega
  · omega
  · refine ⟨b, o, cs, wr, sz, c, rfl, hb, fun j x hx => ?_⟩
    rw [List.getElem?_take] at hx
    split at hx
    · rw [List.getElem?_drop] at hx
      exact hx
    · cases hx
theorem idx_load {v : Value} {n : Nat} {cells : List Value} {i : Int} {x : Value} {K : Value → Value → Prop} (hs : Sli h v 1 n cells) (hi : 0 ≤ i ∧ i < n) (hx : cells[i.toNat]? = some x) (hk : ∀ p, K p x) :
    aIdx 1 v (vint i) fun p => aLoad false 1 p h (K p) := by
  obtain ⟨b, o, cs, wr, sz, c, rfl, hb, hg⟩ := sli_get hs hi
  rw [idx_ok]
  refine ⟨hi, ?_⟩
  rw [load_cell hb (by simpa using hg _ _ hx) (by
    obtain ⟨_, _, _, ⟨_, hkn⟩, _⟩ := hs
    exact kn_get hkn hx)]
  exact hk _
theorem sli_app {v : Value} {s n : Nat} {cells : List Value} {g : List AObj} (hs : Sli h v s n cells) : Sli (h ++ g) v s n cells := by
  obtain ⟨base, c, rfl, ⟨hl, hkn⟩, hc⟩ := hs
  refine ⟨base, c, rfl, ⟨hl, hkn⟩, ?_⟩
  rcases hc with h0 | ⟨b, o, rfl, h0 | ⟨cs, wr, sz, hb, hx⟩⟩
  · exact .inl h0
  · exact .inr ⟨b, o, rfl, .inl h0⟩
  · refine .inr ⟨b, o, rfl, .inr ⟨cs, wr, sz, ?_, hx⟩⟩
    have : b < h.length := by
      rcases Nat.lt_or_ge b h.length with x | x
      · exact x
      · rw [List.getElem?_eq_none x] at hb; cases hb
    rw [List.getElem?_append_left this]
    exact hb
theorem sli_new {b n c : Nat} {cells : List Value} {wr : Bool} {sz : Nat} (hb : h[b]? = some (.cells cells wr sz)) (hl : cells.length = n) (hk : kn cells = true) : Sli h (.slice (some ⟨b, 0, none⟩) n c) 1 n cells :=
  ⟨_, c, rfl, ⟨by omega, hk⟩, .inr ⟨b, 0, rfl, .inr ⟨cells, wr, sz, hb, by simp [← hl]⟩⟩⟩
theorem sli_nil {s : Nat} : Sli h (.slice none 0 0) s 0 [] := ⟨none, 0, rfl, ⟨by simp, rfl⟩, .inl ⟨rfl, rfl⟩⟩
theorem sli_vlen {v : Value} {s n : Nat} {cells : List Value} (hs : Sli h v s n cells) : cells.length = n * s := by
  obtain ⟨_, _, _, ⟨hl, _⟩, _⟩ := hs
  exact hl
theorem src_sli {v : Value} {s n : Nat} {cells : List Value} {K : List Value → Prop} (hs : Sli h v s n cells) (hsp : 0 < s) (hk : K cells) : srcCells s n v h K := by
  obtain ⟨base, c, rfl, ⟨hl, hkn⟩, hc⟩ := hs
  rcases hc with ⟨rfl, rfl⟩ | ⟨b, o, rfl, h0 | ⟨cs, wr, sz, hb, rfl⟩⟩
  · have : cells = [] := List.length_eq_zero_iff.1 (by omega)
    subst this
    exact ⟨rfl, hk⟩
  · subst h0
    have : cells = [] := List.length_eq_zero_iff.1 (by omega)
    subst this
    exact ⟨fun _ => hk, fun x => absurd rfl x⟩
  · by_cases h0 : n = 0
    · subst h0
      exact ⟨fun _ => by simpa using hk, fun x => absurd rfl x⟩
    · refine ⟨fun x => absurd x h0, fun _ => ?_⟩
      simp only [hb]
      refine ⟨?_, hkn, hk⟩
      rw [List.length_take, List.length_drop] at hl
      have := Nat.mul_pos (Nat.pos_of_ne_zero h0) hsp
      omega
theorem app_nil {s m : Nat} {y : Value} {ys : List Value} (hsp : 0 < s) (hy : Sli h y s m ys) (hm : m ≤ room) (h0 : m = 0 → H (.slice none 0 0) h) (h1 : m ≠ 0 → H (.slice (some ⟨h.length, 0, none⟩) m fz) (h ++ [.cells ys true s])) : aApp s (.slice none 0 0) y h H := by
  have hy' := hy
  obtain ⟨yb, yc, rfl, _⟩ := hy
  exact ⟨by omega, src_sli hy' hsp ⟨⟨rfl, rfl⟩, h0, h1⟩⟩
theorem app_own {s n m b : Nat} {y : Value} {cs ys : List Value} (hb : h[b]? = some (.cells cs true s)) (hcs : n * s ≤ cs.length) (hkn : kn (cs.take (n * s)) = true) (hsp : 0 < s) (hy : Sli h y s m ys) (hm : n + m ≤ room)
    (hk : H (.slice (some ⟨h.length, 0, none⟩) (n + m) fz) (h.set b .dead ++ [.cells (cs.take (n * s) ++ ys) true s])) : aApp s (.slice (some ⟨b, 0, none⟩) n fz) y h H := by
  have hy' := hy
  obtain ⟨yb, yc, rfl, _⟩ := hy
  refine ⟨hm, src_sli hy' hsp ?_⟩
  simp only [hb, List.drop_zero, Nat.zero_add]
  have : s ≠ 0 := by omega
  exact ⟨⟨hcs, hkn⟩, fun x => absurd x (Nat.lt_irrefl _), fun _ => ⟨trivial, trivial, trivial, trivial, hk⟩⟩
theorem app_copy {s n m b o c : Nat} {y : Value} {cs ys : List Value} {wr : Bool} {sz : Nat} (hb : h[b]? = some (.cells cs wr sz)) (hcs : o + n * s ≤ cs.length) (hkn : kn ((cs.drop o).take (n * s)) = true) (hc : c < n + m) (hsp : 0 < s) (hy : Sli h y s m ys) (hm : n + m ≤ room)
    (hk : H (.slice (some ⟨h.length, 0, none⟩) (n + m) fz) (h ++ [.cells ((cs.drop o).take (n * s) ++ ys) true s])) : aApp s (.slice (some ⟨b, o, none⟩) n c) y h H := by
  have hy' := hy
  obtain ⟨yb, yc, rfl, _⟩ := hy
  refine ⟨hm, src_sli hy' hsp ?_⟩
  simp only [hb]
  have hr : room = 1073741824 := rfl
  have hf : fz = 1180591620717411303424 := rfl
  exact ⟨⟨hcs, hkn⟩, fun _ => ⟨fun x => absurd x (by omega), fun _ => hk⟩, fun x => absurd x (by omega)⟩
theorem kn_ints (l : List Int) : kn (l.map vint) = true := by
  simp [kn, kn1]
theorem map_get {l : List Int} {k : Nat} (hk : k < l.length) : (l.map vint)[k]? = some (vint (l.getD k 0)) := by
  simp [hk]
theorem wrapU (n : Int) : 0 ≤ IntKind.u64.wrap n ∧ IntKind.u64.wrap n < 18446744073709551616 := by
  simp only [IntKind.wrap, IntKind.bits, IntKind.signed]
  simp
  omega
theorem u_add (hk : ∀ y, 0 ≤ y → y < 18446744073709551616 → K (.int .u64 y)) : aBin P .add t (.int .u64 a) (.int .u64 b) K := ⟨rfl, hk _ (wrapU _).1 (wrapU _).2⟩
theorem u_mul (hk : ∀ y, 0 ≤ y → y < 18446744073709551616 → K (.int .u64 y)) : aBin P .mul t (.int .u64 a) (.int .u64 b) K := ⟨rfl, hk _ (wrapU _).1 (wrapU _).2⟩
theorem u_xor (hk : ∀ y, 0 ≤ y → y < 18446744073709551616 → K (.int .u64 y)) : aBin P .xor t (.int .u64 a) (.int .u64 b) K := ⟨rfl, hk _ (wrapU _).1 (wrapU _).2⟩
theorem u_shl (hb : 0 ≤ b) (hk : ∀ y, 0 ≤ y → y < 18446744073709551616 → K (.int .u64 y)) : aBin P .shl t (.int .u64 a) (.int k b) K := ⟨hb, hk _ (wrapU _).1 (wrapU _).2⟩
theorem u_shr (hb : 0 ≤ b) (ha : 0 ≤ a) {A : Int} (hA : a < A) (hk : ∀ y, 0 ≤ y → y < A → K (.int .u64 y)) : aBin P .shr t (.int .u64 a) (.int k b) K := by
  refine ⟨hb, hk _ ?_ ?_⟩
  · exact Int.fdiv_nonneg ha (by exact Int.le_of_lt (Int.pow_pos (by decide)))
  · refine Int.lt_of_le_of_lt ?_ hA
    rw [Int.fdiv_eq_ediv_of_nonneg _ (Int.le_of_lt (Int.pow_pos (by decide)))]
    exact Int.ediv_le_self _ ha
end
end Go.Proofs.Ythnccaajpdnndaa
namespace Go.Proofs.Ythnccaajpdnndaa
open Go.Conc
open Go.ConcN (sumTo upd sumTo_upd upd_ne upd_same)
def Ends (P : Program) (Post : Value → World → Prop) (m : Machine) (t : Trace) : Prop :=
  ∃ N last o w' t', runNT P (N + 1) m t = (.ended o w', t') ∧ runN P N m = .next last ∧ step P last = .ended o w' ∧ Go.Conc.Good P Post last o w' t'
structure Base (W0 w : World) : Prop where
  tape : w.tape = W0.tape
  os : w.os = W0.os
  output : w.output = W0.output
  size : W0.heap.size ≤ w.heap.size
def J1 (P : Program) (W0 : World) (Post : Value → World → Prop) (g : Goroutine) (w : World) (ft : Foot) : Prop :=
  ∀ (gs : Array Goroutine) (w₁ : World) (sl : Option (Nat × Nat)) (t : Trace) (q : Nat → Nat), (∀ b, ft.rd b → b < w₁.heap.size) → (∀ b, ft.wr b → ft.rd b) → RelyW ft w w₁ → Base W0 w₁ → gs[0]? = some g → Leavers P t gs q → Past (fun _ => False) w₁.heap.size t →
    Ends P Post (crowd gs w₁ sl) t
section
variable {P : Program} {W0 : World} {Post : Value → World → Prop} {g : Goroutine} {w w₁ : World} {ft : Foot}
theorem Ends.next {m m' : Machine} {t : Trace} {ops : Array MemOp} (hs : stepT P m = (.next m', ops)) (h : Ends P Post m' (t ++ ops)) : Ends P Post m t := by
  obtain ⟨n, last, o, w, t', h1, h2, h3, h4⟩ := h
  exact ⟨n + 1, last, o, w, t', by rw [runNT_succ_next hs]; exact h1, by rw [runN_succ_next hs]; exact h2, h3, h4⟩
theorem evL_of {e : Event} {B : Nat} (he : EvOk ft e) (hb : ∀ b, ft.rd b → b < B) : EvL (fun _ => False) B e := by
  obtain ⟨loc, wr, sync⟩ := e
  unfold EvOk at he
  refine ⟨fun x _ hs => hs.elim, ?_, ?_, ?_⟩
  · intro hl
    simp only at hl
    subst hl
    exact he
  · intro hl
    simp only at hl
    subst hl
    exact he
  · cases loc with
    | cell a => exact hb _ he.2.1
    | obj r =>
      have hs : sync = false := he.1
      subst hs
      have := hb _ he.2.1
      cases wr <;> exact this
    | mark m =>
      cases m <;> first | exact he.elim | trivial
    | output => trivial
    | goroutines => trivial
theorem mem_g {i : Nat} {fn : FuncId} {pos : String} {es : Array Event} {op : MemOp} (h : op ∈ MemOp.ofEvents i fn pos es) : op.g = i := by
  rw [ofEvents_eq] at h
  obtain ⟨e, he, rfl⟩ := Array.mem_map.1 h
  rfl
theorem relyW_at (ft : Foot) (w : World) (d : Nat) : RelyW ft w (w.at d) := ⟨fun _ _ => rfl, Nat.le_refl _, rfl, rfl, rfl⟩
theorem J1.both (hrun : g.status = .running)
    (h : ∀ w₁, RelyW ft w w₁ → Base W0 w₁ → (∃ g' w' es, stepG P true g w₁ = .go g' w' es ∧ g'.status = .running ∧ GuarW ft w₁ w' es ∧ J1 P W0 Post g' w' (ft.ext w₁.heap.size w'.heap.size)) ∨
      ∃ v es, stepG P true g w₁ = .ended (.done v) w₁ es ∧ (∀ e ∈ es, EvOk ft e) ∧ Post v w₁) : J1 P W0 Post g w ft := by
  intro gs w₁ sl t q hbd hsub hrel hbase h0 hL hP
  generalize hM : sumTo gs.size q = M
  induction M using Nat.strongRecOn generalizing gs w₁ sl t q with
  | ind M ih =>
    have haw : ∀ g ∈ gs, awake g := by
      intro x hx
      obtain ⟨i, hi, rfl⟩ := Array.mem_iff_getElem.1 hx
      rcases Nat.eq_zero_or_pos i with rfl | hpos
      · have : gs[0] = g := by simpa [Array.getElem?_eq_getElem hi] using h0
        rw [this]; exact awake_of (.inl hrun)
      · exact awake_of ((hL.old i _ hpos (Array.getElem?_eq_getElem hi)).status.elim .inl fun x => .inr (.inr x))
    obtain ⟨i, x, d, sl', hi, hg, hst⟩ := crowd_pick (P := P) (w := w₁) (sl := sl) haw ⟨0, g, h0, hrun⟩
    rcases Nat.eq_zero_or_pos i with rfl | hpos
    · obtain rfl : x = g := by rw [h0] at hi; exact (Option.some.inj hi).symm
      rcases h (w₁.at d) (hrel.trans (relyW_at ft w₁ d)) ⟨hbase.tape, hbase.os, hbase.output, hbase.size⟩ with ⟨g', w', es, hgo, hrun', hgu, hJ⟩ | ⟨v, es, hend, hes, hpost⟩
      · have hrunT := runT_crowd_go (P := P) (sl := sl') (i := 0) hi (show stepG P (0 == 0) x (w₁.at d) = _ from hgo)
        have hsz : ((gs.map (woken P x g' w')).setIfInBounds 0 g').size = gs.size := by simp
        have hlt : 0 < gs.size := (Array.getElem?_eq_some_iff.1 h0).1
        have hw' : w₁.heap.size ≤ w'.heap.size := hgu.size
        refine Ends.next (hst.trans hrunT) ?_
        refine hJ _ w' sl' _ q (fun b hb => ?_) (fun b hb => ?_) (RelyW.refl _ _) ⟨hgu.tape.trans hbase.tape, hgu.os.trans hbase.os, hgu.output.trans hbase.output, Nat.le_trans hbase.size hgu.size⟩ (by simp [hlt]) ⟨fun j y hj hy => ?_, fun j hj => ?_⟩ ?_
        · rcases hb with hb | hb
          · exact Nat.lt_of_lt_of_le (hbd b hb) hw'
          · exact hb.2
        · rcases hb with hb | hb
          · exact .inl (hsub b hb)
          · exact .inr hb
        · have hne : 0 ≠ j := by omega
          rw [Array.getElem?_setIfInBounds_ne hne, Array.getElem?_map] at hy
          obtain ⟨z, hz, rfl⟩ := Option.map_eq_some_iff.1 hy
          have hq := hL.old j z hj hz
          rw [woken_quitsD hq, Deaf_other t (by omega) _ (fun op hop => mem_g hop)]
          exact hq
        · rw [Deaf_other t (g' := 0) (by simp at hj; omega) _ (fun op hop => mem_g hop)]
          exact hL.above j (by simpa using hj)
        · exact (hP.mono hw').own fun e he => evL_of (hgu.evs e he) fun b hb => Nat.lt_of_lt_of_le (hbd b hb) hw'
      · have hrunT := runT_many_ended (P := P) (sl := sl') (i := 0) hi (show stepG P (0 == 0) x (w₁.at d) = _ from hend)
        have hP' := hP.own (fn := x.frame.fn) (pos := x.frame.place) fun e he => evL_of (hes e he) hbd
        refine ⟨0, crowd gs w₁ sl, .done v, w₁.at d, _, by simp only [runNT, hst.trans hrunT], rfl, by simp [step, hst.trans hrunT], v, rfl, hpost, hP'.clean, hP'.over, ⟨fun y hy => ?_, rfl⟩, fun j y hy hj => ?_⟩
        · obtain ⟨j, hj⟩ := List.mem_iff_getElem?.1 hy
          rw [List.getElem?_drop] at hj
          exact ⟨_, (hL.old (1 + j) y (by omega) (by simpa [crowd] using hj)).leaves⟩
        · have hq := hL.old j y (by omega) hy
          refine ⟨q j, ?_⟩
          have e : (t ++ MemOp.ofEvents 0 x.frame.fn x.frame.place es).deaf j (t ++ MemOp.ofEvents 0 x.frame.fn x.frame.place es).size = Deaf t j :=
            Deaf_other t (g := j) (g' := 0) (by omega) _ (fun op hop => mem_g hop)
          rw [e]
          exact hq.hears _
    · have hq := hL.old i x hpos hi
      have hi0 : (i == 0) = false := by simp; omega
      have hlt : i < gs.size := (Array.getElem?_eq_some_iff.1 hi).1
      cases hqi : q i with
      | zero => rw [hqi] at hq; rw [hq.1] at hg; cases hg
      | succ k =>
        rw [hqi] at hq
        rcases hq with ⟨hf, _⟩ | ⟨_, g', es, hm, hstp, hq'⟩
        · rw [hf] at hg; cases hg
        have hrunT := runT_crowd_go (P := P) (sl := sl') (i := i) hi (by rw [hi0]; exact hstp (w₁.at d))
        have hsz : ((gs.map (woken P x g' (w₁.at d))).setIfInBounds i g').size = gs.size := by simp
        have hsum : sumTo gs.size (upd q i k) + (k + 1) = sumTo gs.size q + k := by
          have := sumTo_upd q k id hlt
          simpa [hqi] using this
        refine Ends.next (hst.trans hrunT) (ih (sumTo gs.size (upd q i k)) (by omega) _ (w₁.at d) sl' _ (upd q i k) hbd (hrel.trans (relyW_at ft w₁ d)) ⟨hbase.tape, hbase.os, hbase.output, hbase.size⟩ ?_ ⟨fun j y hj hy => ?_, fun j hj => ?_⟩ (hP.mute (by omega) hm) (by rw [hsz]))
        · have hne : i ≠ 0 := by omega
          rw [Array.getElem?_setIfInBounds_ne hne, Array.getElem?_map, h0]
          simp [woken_run hrun]
        · by_cases hji : i = j
          · subst hji
            rw [Array.getElem?_setIfInBounds_self_of_lt (by simpa using hlt)] at hy
            obtain rfl := Option.some.inj hy
            rw [upd_same, Deaf_own]
            exact hq'
          · rw [Array.getElem?_setIfInBounds_ne hji, Array.getElem?_map] at hy
            obtain ⟨z, hz, rfl⟩ := Option.map_eq_some_iff.1 hy
            have hqj := hL.old j z hj hz
            rw [woken_quitsD hqj, upd_ne q k (Ne.symm hji), Deaf_other t hji _ (fun op hop => mem_g hop)]
            exact hqj
        · rw [Deaf_other t (g' := i) (by simp at hj; omega) _ (fun op hop => mem_g hop)]
          exact hL.above j (by simpa using hj)
theorem J1.closed (P : Program) (W0 : World) (Post : Value → World → Prop) : Closed P true (J1 P W0 Post) where
  rely := fun h hr gs w₂ sl t q hbd hsub hrel hbase h0 hL hP => h gs w₂ sl t q hbd hsub (hr.trans hrel) hbase h0 hL hP
  step := fun hrun h => J1.both hrun fun w₁ h₁ _ => by
    obtain ⟨g', w', es, a, b, c, d⟩ := h w₁ h₁
    exact .inl ⟨g', w', es, a, b, c, d⟩
end
end Go.Proofs.Ythnccaajpdnndaa
namespace Go.Proofs.Ythnccaajpdnndaa
open Go.Conc Go.RowKit
def idEnv : Env := ⟨fun b => b, fun _ => 0⟩
def startFt (w : World) : Foot := ⟨fun b => b < w.heap.size, fun _ => False, 0⟩
def startFC (w : World) : Frm := ⟨fun b => w.heap[b]?, fun _ => False⟩
def Fine (n : Nat) (v : Value) : Prop := VOk n v ∧ one v = true ∧ ren idEnv v = v
open Classical in
noncomputable def clean (n : Nat) (v : Value) : Value := if Fine n v then v else unk
noncomputable def absO (n : Nat) : Obj → AObj
  | .cells c _ _ => .cells (c.toList.map (clean n)) false 0
  | _ => .dead
noncomputable def absH (w : World) : List AObj := w.heap.toList.map (absO w.heap.size)
section
variable {w w' : World} {n : Nat}
theorem clean_fine {v : Value} (h : Fine n v) : clean n v = v := by simp [clean, h]
theorem absH_len : (absH w).length = w.heap.size := by simp [absH]
theorem absH_get {b : Nat} : (absH w)[b]? = (w.heap[b]?).map (absO w.heap.size) := by simp [absH]
theorem absO_wrt (x : Obj) : (absO n x).wrt = false := by cases x <;> rfl
theorem start_rel (w : World) : HRel idEnv (absH w) (startFC w) w (startFt w) where
  obj := fun b o hb => by
    rw [absH_get] at hb
    obtain ⟨x, hx, rfl⟩ := Option.map_eq_some_iff.1 hb
    show ORel (absH w).length idEnv b (absO w.heap.size x) w.heap[b]?
    rw [absH_len, hx]
    cases x with
    | cells c ty fr =>
      refine ⟨fun i v hv => ?_, fun _ => by simp, fun hz => absurd rfl hz, fun e => by cases e⟩
      rw [List.getElem?_map] at hv
      obtain ⟨u, hu, rfl⟩ := Option.map_eq_some_iff.1 hv
      by_cases hf : Fine w.heap.size u
      · rw [clean_fine hf]
        exact .inr ⟨hf.1, hf.2.1, by rw [hf.2.2]; simpa using hu⟩
      · exact .inl ⟨by simp [clean, hf], rfl⟩
    | _ => trivial
  inj := fun b b' o o' _ _ _ _ e => e
  rd := fun b o hb _ => by
    have : b < (absH w).length := (List.getElem?_eq_some_iff.1 hb).1
    rw [absH_len] at this
    exact this
  wr := fun b o hb hw => by
    rw [absH_get] at hb
    obtain ⟨x, hx, rfl⟩ := Option.map_eq_some_iff.1 hb
    rw [absO_wrt] at hw
    cases hw
  lt := fun b hb => hb
  sub := fun b hb => hb.elim
  kept := fun b o hb => by
    refine ⟨hb, ?_, fun a oa ha hw => ?_⟩
    · exact (Array.getElem?_eq_some_iff.1 hb).1
    · rw [absH_get] at ha
      obtain ⟨x, hx, rfl⟩ := Option.map_eq_some_iff.1 ha
      rw [absO_wrt] at hw
      cases hw
  keptW := fun b hb => hb.elim
  tag := fun b x hb => by
    rw [absH_get] at hb
    obtain ⟨y, _, e⟩ := Option.map_eq_some_iff.1 hb
    cases y <;> cases e
theorem absH_cell {b o : Nat} {v : Value} (hc : w.cell? ⟨b, o, none⟩ = some v) (hf : Fine w.heap.size v) : ∃ c, (absH w)[b]? = some (.cells c false 0) ∧ c[o]? = some v := by
  unfold World.cell? at hc
  simp only at hc
  split at hc
  · rename_i c ty fr hx
    refine ⟨c.toList.map (clean w.heap.size), by rw [absH_get, hx]; rfl, ?_⟩
    have hc' : c[o]? = some v := by simpa using hc
    rw [List.getElem?_map, Array.getElem?_toList, hc']
    simp [clean_fine hf]
  · cases hc
theorem below_of {ρ' : Env} {h' : List AObj} {ft' : Foot} (H : HRel ρ' h' (startFC w) w' ft') (B : Base w w') : Below w.heap.size w w' :=
  ⟨B.os, B.tape, B.output, B.size, fun k hk => by
    have : (startFC w).ob k = some w.heap[k] := by simp [startFC, hk]
    rw [(H.kept k _ this).1, Array.getElem?_eq_getElem hk]⟩
end
end Go.Proofs.Ythnccaajpdnndaa
namespace Go.Proofs.Ythnccaajpdnndaa
open Go Go.Proofs.Try
theorem mixed : prog.follows .mixedOrders = true := by kernel_rfl
end Go.Proofs.Ythnccaajpdnndaa
namespace Go.Proofs.Ythnccaajpdnndaa
open Go.Conc Go.ChangeShapes Go.WideShapes Go.ChangeAt Go.RowKit Go.Proofs.Try
set_option maxRecDepth 100000
theorem own : ownKnob prog.godebug = none := by kernel_rfl
theorem laidOut : laidOutB prog = true := by kernel_rfl
def ArgOk (W : World) (v : Value) : Prop := VOk W.heap.size v ∧ ren idEnv v = v
section
variable {H : Type} {enc : TypeId × Value → H}
theorem arg_ints {t e : TypeId} (ht : prog.underlying t = some (.slice e)) (he : prog.underlying e = some (.int .i64)) (hc : prog.cellsOf e = 1) {W : World} {base : Nat} {v : Value} {d : DataW H} {ps : List MemPlace}
    (hval : Value.okWide prog W .any base t v) (hd : DataW.Trod enc prog W 0 (fun _ => true) true t v d ps) :
    ∃ zs : List Int, Sli (absH W) v 1 zs.length (zs.map vint) ∧ ArgOk W v ∧ (zs = [] ∨ ∃ es sp, d = .slice es sp ∧ zs.length ≤ es.length + sp.length) := by
  obtain ⟨a0, len, cap, rfl⟩ := okWide_slice ht hval
  obtain ⟨fuel, hf⟩ := hd
  rcases open_ints ht he hc hf with ⟨hcs, hx⟩ | ⟨a, len', cap', zs, hcs, _, hl, hm, hz, hx, hcell, hwz⟩
  · simp [Value.cells] at hcs
    obtain ⟨rfl, rfl, rfl⟩ := hcs
    exact ⟨[], sli_nil, ⟨by simp [VOk], by simp [ren]⟩, .inl rfl⟩
  · simp [Value.cells] at hcs
    obtain ⟨rfl, rfl, rfl⟩ := hcs
    simp only [Prod.mk.injEq] at hx
    obtain ⟨rfl, rfl⟩ := hx
    simp only [if_true] at hz
    simp only [Value.okWide, ht, Cell.okWide, Cell.ok, World.has] at hval
    obtain ⟨_, _, _, hspot, row, cells, hshape, _⟩ := hval
    obtain ⟨b, o, spot⟩ := a
    simp only at hspot hshape
    subst hspot
    have hb : b < W.heap.size := by
      unfold World.shape? at hshape
      split at hshape
      · rename_i h
        exact (Array.getElem?_eq_some_iff.1 h).1
      · cases hshape
    have hlen : (zs.take len).length = len := by simp; omega
    have hcell' : ∀ i, i < zs.length → W.cell? ⟨b, o + i, none⟩ = some (vint (zs.getD i 0)) := by
      intro i hi
      have := hcell i hi
      unfold Addr.add at this
      by_cases h0 : i = 0
      · subst h0; simpa using this
      · simpa [h0] using this
    have hmax : cap < fz := by
      simp only [maxLen] at hm
      unfold fz
      omega
    refine ⟨zs.take len, ?_, ⟨by simp only [VOk, AddrOk]; exact ⟨hb, trivial⟩, ?_⟩, .inr ⟨_, _, rfl, ?_⟩⟩
    · refine ⟨some ⟨b, o, none⟩, cap, by rw [hlen], ⟨by simp, kn_ints _⟩, .inr ⟨b, o, rfl, ?_⟩⟩
      rw [hlen]
      by_cases h0 : len = 0
      · exact .inl h0
      · right
        have fine : ∀ n : Int, Fine W.heap.size (vint n) := fun n => ⟨by simp [VOk], rfl, by simp [ren]⟩
        obtain ⟨c, hc1, hc2⟩ := absH_cell (hcell' 0 (by omega)) (fine _)
        refine ⟨c, false, 0, hc1, ?_⟩
        apply List.ext_getElem?
        intro i
        rw [Nat.mul_one]
        by_cases hi : i < len
        · obtain ⟨c', hc1', hc2'⟩ := absH_cell (hcell' i (by omega)) (fine _)
          rw [hc1] at hc1'
          cases hc1'
          rw [List.getElem?_take, if_pos hi, List.getElem?_drop, hc2']
          have hzi : i < zs.length := by omega
          simp [hi, hzi]
        · rw [List.getElem?_take, if_neg hi, List.getElem?_eq_none (by simp; omega)]
    · have hnf : ¬ fz ≤ cap := by omega
      simp [ren, renAddr, renCap, idEnv, hnf]
    · simp only [lits, List.length_map, List.length_take, List.length_drop]
      omega
end
end Go.Proofs.Ythnccaajpdnndaa
namespace Go.Proofs.Ythnccaajpdnndaa
open Go.Conc
def putAt {X : Type} (f : Nat → X) (i : Nat) (x : X) : Nat → X := fun j => if j = i then x else f j
theorem putAt_self {X : Type} (f : Nat → X) (i : Nat) (x : X) : putAt f i x i = x := by simp [putAt]
theorem putAt_ne {X : Type} (f : Nat → X) {i j : Nat} (x : X) (h : j ≠ i) : putAt f i x j = f j := by simp [putAt, h]
def Less {X : Type} (r : X → X → Prop) (n : Nat) (f' f : Nat → X) : Prop := ∃ i, i < n ∧ r (f' i) (f i) ∧ ∀ j, j ≠ i → f' j = f j
theorem less_acc {X : Type} (r : X → X → Prop) : ∀ (n : Nat) (f : Nat → X), (∀ i, i < n → Acc r (f i)) → Acc (Less r n) f
  | 0, f, _ => ⟨f, fun _ h => by obtain ⟨i, hi, _⟩ := h; omega⟩
  | n + 1, f, h => by
    have key : ∀ a, Acc r a → ∀ g : Nat → X, Acc (Less r n) g → Acc (Less r (n + 1)) (putAt g n a) := by
      intro a ha
      induction ha with
      | intro a _ iha =>
        intro g hg
        induction hg with
        | intro g hgs ihg =>
          refine ⟨_, fun y hy => ?_⟩
          obtain ⟨i, hi, hr, ho⟩ := hy
          by_cases hin : i = n
          · subst hin
            rw [putAt_self] at hr
            have : y = putAt g i (y i) := by
              funext j
              by_cases hj : j = i
              · subst hj; rw [putAt_self]
              · rw [putAt_ne _ _ hj, ho j hj, putAt_ne _ _ hj]
            rw [this]
            exact iha (y i) hr g ⟨g, hgs⟩
          · rw [putAt_ne _ _ hin] at hr
            have : y = putAt (putAt g i (y i)) n a := by
              funext j
              by_cases hj : j = n
              · subst hj
                rw [putAt_self, ho j (fun e => hin e.symm), putAt_self]
              · rw [putAt_ne _ _ hj]
                by_cases hji : j = i
                · subst hji; rw [putAt_self]
                · rw [putAt_ne _ _ hji, ho j hji, putAt_ne _ _ hj]
            rw [this]
            refine ihg _ ⟨i, by omega, by rw [putAt_self]; exact hr, fun j hj => putAt_ne _ _ hj⟩
    have e : f = putAt f n (f n) := by
      funext j
      by_cases hj : j = n
      · subst hj; rw [putAt_self]
      · rw [putAt_ne _ _ hj]
    rw [e]
    exact key (f n) (h n (by omega)) f (less_acc r n f fun i hi => h i (by omega))
inductive Toward (P : Program) (Stop : JT) : Goroutine → World → Foot → Prop where
  | stop {g : Goroutine} {w : World} {ft : Foot} : g.status = .running → (∀ w₁, RelyW ft w w₁ → Stop g w₁ ft) → Toward P Stop g w ft
  | step {g : Goroutine} {w : World} {ft : Foot} : g.status = .running → (∀ w₁, RelyW ft w w₁ → ∃ g' w' es, stepG P false g w₁ = .go g' w' es ∧ g'.status = .running ∧ GuarW ft w₁ w' es) →
      (∀ w₁ g' w' es, RelyW ft w w₁ → stepG P false g w₁ = .go g' w' es → Toward P Stop g' w' (ft.ext w₁.heap.size w'.heap.size)) → Toward P Stop g w ft
theorem Toward.running {P : Program} {Stop : JT} {g : Goroutine} {w : World} {ft : Foot} (h : Toward P Stop g w ft) : g.status = .running := by
  cases h with
  | stop h _ => exact h
  | step h _ _ => exact h
theorem Toward.rely {P : Program} {Stop : JT} {g : Goroutine} {w w₁ : World} {ft : Foot} (h : Toward P Stop g w ft) (hr : RelyW ft w w₁) : Toward P Stop g w₁ ft := by
  cases h with
  | stop h1 h2 => exact .stop h1 fun w₂ h₂ => h2 w₂ (hr.trans h₂)
  | step h1 h2 h3 => exact .step h1 (fun w₂ h₂ => h2 w₂ (hr.trans h₂)) fun w₂ g' w' es h₂ hs => h3 w₂ g' w' es (hr.trans h₂) hs
theorem Toward.closed (P : Program) (Stop : JT) : Closed P false (Toward P Stop) where
  rely := fun h hr => h.rely hr
  step := fun hrun h => .step hrun (fun w₁ h₁ => by
    obtain ⟨g', w', es, a, b, c, _⟩ := h w₁ h₁
    exact ⟨g', w', es, a, b, c⟩) fun w₁ g' w' es h₁ hs => by
    obtain ⟨g2, w2, es2, a, b, c, d⟩ := h w₁ h₁
    rw [hs] at a
    cases a
    exact d
inductive WS where
  | quit (n : Nat)
  | way (w : World) (ft : Foot)
  | park
inductive WLt (P : Program) : Goroutine × WS → Goroutine × WS → Prop where
  | step {g g' : Goroutine} {w w₁ w' : World} {ft : Foot} {es : Array Event} : RelyW ft w w₁ → stepG P false g w₁ = .go g' w' es → WLt P (g', .way w' (ft.ext w₁.heap.size w'.heap.size)) (g, .way w ft)
  | quit {g g' : Goroutine} {w : World} {ft : Foot} {n : Nat} : WLt P (g', .quit n) (g, .way w ft)
  | park {g g' : Goroutine} {w : World} {ft : Foot} : WLt P (g', .park) (g, .way w ft)
  | out {g g' : Goroutine} {n : Nat} : WLt P (g', .quit n) (g, .park)
  | less {g g' : Goroutine} {n m : Nat} : n < m → WLt P (g', .quit n) (g, .quit m)
theorem acc_quit (P : Program) : ∀ (n : Nat) (g : Goroutine), Acc (WLt P) (g, .quit n) := by
  intro n
  induction n using Nat.strongRecOn with
  | ind n ih =>
    intro g
    refine ⟨_, fun y hy => ?_⟩
    cases hy with
    | less h => exact ih _ h _
theorem acc_park (P : Program) (g : Goroutine) : Acc (WLt P) (g, .park) :=
  ⟨_, fun y hy => by cases hy with | out => exact acc_quit P _ _⟩
def Halts (P : Program) (Stop : JT) : Prop := ∀ g w ft g' w' es, Stop g w ft → stepG P false g w ≠ .go g' w' es
theorem acc_way {P : Program} {Stop : JT} (hS : Halts P Stop) {g : Goroutine} {w : World} {ft : Foot} (h : Toward P Stop g w ft) : Acc (WLt P) (g, .way w ft) := by
  induction h with
  | stop h1 h2 =>
    refine ⟨_, fun y hy => ?_⟩
    cases hy with
    | step hr hs => exact absurd hs (hS _ _ _ _ _ _ (h2 _ hr))
    | quit => exact acc_quit P _ _
    | park => exact acc_park P _
  | step h1 h2 _ ih =>
    refine ⟨_, fun y hy => ?_⟩
    cases hy with
    | step hr hs => exact ih _ _ _ _ hr hs
    | quit => exact acc_quit P _ _
    | park => exact acc_park P _
def locBlk : Loc → Option Nat
  | .cell a => some a.block
  | .obj r => some r
  | _ => none
def KnowsOk (t : Trace) (x : Nat) (ft : Foot) : Prop :=
  ∀ i a, touchAt t i = some a → a.loc.isMemory = true → Knows t x i ∨ ∀ b, locBlk a.loc = some b → ¬ ft.wr b ∧ (a.write = true → ¬ ft.rd b)
theorem evOk_touch {ft : Foot} {e : Event} {a : Touch} (he : EvOk ft e) (ha : (MemAct.ofEvent e).touch? = some a) : ∃ b, locBlk a.loc = some b ∧ ft.rd b ∧ (a.write = true → ft.wr b) := by
  obtain ⟨loc, wr, sync⟩ := e
  unfold EvOk at he
  cases loc with
  | cell x =>
    simp only at he
    simp only [MemAct.ofEvent, MemAct.touch?, Option.some.injEq] at ha
    subst ha
    exact ⟨_, rfl, he.2.1, he.2.2⟩
  | obj r =>
    obtain ⟨rfl, h1, h2⟩ := he
    cases wr <;> (simp only [MemAct.ofEvent, MemAct.touch?, Option.some.injEq] at ha; subst ha; exact ⟨_, rfl, h1, h2⟩)
  | mark m => cases m <;> first | exact he.elim | (simp [MemAct.ofEvent, MemAct.touch?] at ha)
  | output => exact he.elim
  | goroutines => exact he.elim
theorem touch_low {x : MemAct} {a : Touch} {n b : Nat} (hl : x.low n) (ha : x.touch? = some a) (hb : locBlk a.loc = some b) : b < n := by
  cases x with
  | access e =>
    obtain ⟨loc, wr, sy⟩ := e
    simp only [MemAct.touch?, Option.some.injEq] at ha
    subst ha
    cases loc with
    | cell x => injection hb with hb; subst hb; exact hl
    | obj x => injection hb with hb; subst hb; exact hl
    | _ => cases hb
  | mark mk =>
    cases mk with
    | read x => injection ha with ha; subst ha; injection hb with hb; subst hb; exact hl
    | write x => injection ha with ha; subst ha; injection hb with hb; subst hb; exact hl
    | _ => cases ha
  | _ => cases ha
theorem touch_app {t u : Trace} {i : Nat} {a : Touch} (h : touchAt (t ++ u) i = some a) : (i < t.size ∧ touchAt t i = some a) ∨ ∃ op ∈ u, (t ++ u)[i]? = some op ∧ op.act.touch? = some a := by
  obtain ⟨x, hx, hxa⟩ := touch_of h
  rcases getElem?_append_cases hx with ⟨hi, hx'⟩ | ⟨_, hxu⟩
  · exact .inl ⟨hi, by rw [touchAt_of hx']; exact hxa⟩
  · exact .inr ⟨x, hxu, hx, hxa⟩
theorem conf_blk {said : Bool} {a b : Touch} (h : a.conflicts said b) : locBlk a.loc = locBlk b.loc ∧ a.loc.isMemory = true ∧ (a.write = true ∨ b.write = true) := ⟨by rw [h.1], h.2.1, h.2.2.1⟩
section
variable {t u : Trace} {x y : Nat} {ft fy : Foot} {fn : FuncId} {pos : String} {es : Array Event}
theorem KnowsOk.noRace {said : Bool} (hc : ¬ Race said t) (hk : KnowsOk t x ft) (he : ∀ e ∈ es, EvOk ft e) : ¬ Race said (t ++ MemOp.ofEvents x fn pos es) := by
  refine noRace_append hc (fun op hop => mem_g hop) fun i a ha op hop b hb hcf => ?_
  obtain ⟨e, hee, rfl⟩ := Go.Conc.mem_ofEvents hop
  obtain ⟨bl, h1, h2, h3⟩ := evOk_touch (he e hee) hb
  obtain ⟨c1, c2, c3⟩ := conf_blk hcf
  rcases hk i a ha c2 with h | h
  · exact h
  · obtain ⟨n1, n2⟩ := h bl (by rw [c1]; exact h1)
    rcases c3 with c | c
    · exact absurd h2 (n2 c)
    · exact absurd (h3 c) n1
theorem KnowsOk.mute (hk : KnowsOk t y fy) (hu : ∀ op ∈ u, op.act.touch? = none) : KnowsOk (t ++ u) y fy := by
  intro i a ha hm
  rcases touch_app ha with ⟨hi, h⟩ | ⟨op, hop, _, h⟩
  · exact (hk i a h hm).imp (·.app u) id
  · rw [hu op hop] at h; cases h
theorem KnowsOk.other (hk : KnowsOk t y fy) (he : ∀ e ∈ es, EvOk ft e) (d1 : ∀ b, ft.wr b → ¬ fy.rd b) (d2 : ∀ b, fy.wr b → ¬ ft.rd b) : KnowsOk (t ++ MemOp.ofEvents x fn pos es) y fy := by
  intro i a ha hm
  rcases touch_app ha with ⟨hi, h⟩ | ⟨op, hop, _, h⟩
  · exact (hk i a h hm).imp (·.app _) id
  · obtain ⟨e, hee, rfl⟩ := Go.Conc.mem_ofEvents hop
    obtain ⟨bl, h1, h2, h3⟩ := evOk_touch (he e hee) h
    refine .inr fun b hb => ?_
    rw [h1] at hb
    cases hb
    exact ⟨fun hw => d2 _ hw h2, fun hw => d1 _ (h3 hw)⟩
theorem KnowsOk.own {n m : Nat} (hk : KnowsOk t x ft) (_he : ∀ e ∈ es, EvOk ft e) (hs : ∀ op ∈ t, op.act.low n) : KnowsOk (t ++ MemOp.ofEvents x fn pos es) x (ft.ext n m) := by
  intro i a ha hm
  rcases touch_app ha with ⟨hi, h⟩ | ⟨op, hop, hg, h⟩
  · rcases hk i a h hm with hh | hh
    · exact .inl (hh.app _)
    · refine .inr fun b hb => ?_
      obtain ⟨n1, n2⟩ := hh b hb
      have hlow : b < n := by
        obtain ⟨z, hz, hza⟩ := touch_of h
        exact touch_low (hs z (Array.mem_of_getElem? hz)) hza hb
      exact ⟨fun hw => hw.elim n1 (fun e => by omega), fun hw hr => hr.elim (n2 hw) fun e => by omega⟩
  · have := knows_own hg
    rw [mem_g hop] at this
    exact .inl this
theorem KnowsOk.less {f' : Foot} (hk : KnowsOk t x ft) (h1 : ∀ b, f'.rd b → ft.rd b) (h2 : ∀ b, f'.wr b → ft.wr b) : KnowsOk t x f' := fun i a ha hm =>
  (hk i a ha hm).imp id fun hh b hb => ⟨fun hw => (hh b hb).1 (h2 b hw), fun hw hr => (hh b hb).2 hw (h1 b hr)⟩
theorem low_events {n : Nat} (he : ∀ e ∈ es, EvOk ft e) (hb : ∀ b, ft.rd b → b < n) : ∀ op ∈ MemOp.ofEvents x fn pos es, op.act.low n := fun op hop => by
  obtain ⟨e, hee, rfl⟩ := Go.Conc.mem_ofEvents hop
  exact (evL_of (he e hee) hb).2.2.2
end
structure Crew where
  ch : Nat → Option (Nat × Array Value × Bool)
  c : Nat
  pend : List Nat
  phi : Nat → Value → Prop
def AtSend (P : Program) (c : Nat) (Φ : Value → Prop) : JT := fun g w _ =>
  ∃ g₂ v z, stepG P false g w = .comm g₂ #[scase c v z] true .send w #[] ∧ Φ v ∧ ∃ n, QuitsD P n 0 (Conc.served g₂ undef)
theorem atSend_halts (P : Program) (c : Nat) (Φ : Value → Prop) : Halts P (AtSend P c Φ) := fun g w ft g' w' es h e => by
  obtain ⟨g₂, v, z, h, _⟩ := h
  rw [h] at e
  cases e
structure WayOk (P : Program) (T : Crew) (t : Trace) (i k : Nat) (ft : Foot) (w : World) (g : Goroutine) (wi : World) (fi : Foot) : Prop where
  way : Toward P (AtSend P T.c (T.phi k)) g wi fi
  rely : RelyW fi wi w
  lt : ∀ b, fi.rd b → b < w.heap.size
  sub : ∀ b, fi.wr b → fi.rd b
  ch : ∀ b x, T.ch b = some x → ¬ fi.rd b
  d1 : ∀ b, fi.wr b → ¬ ft.rd b
  d2 : ∀ b, ft.wr b → ¬ fi.rd b
  know : KnowsOk t i fi
def ParkOk (P : Program) (T : Crew) (k : Nat) (g : Goroutine) : Prop := ∃ g₂ v z, g = parked g₂ #[scase T.c v z] .send ∧ T.phi k v ∧ ∃ n, QuitsD P n 0 (Conc.served g₂ undef)
structure Inv (P : Program) (W0 : World) (T : Crew) (ft : Foot) (gs : Array Goroutine) (w : World) (t : Trace) (st : Nat → WS) (ix : Nat → Nat) : Prop where
  base : Base W0 w
  lt : ∀ b, ft.rd b → b < w.heap.size
  sub : ∀ b, ft.wr b → ft.rd b
  chan : ∀ b x, T.ch b = some x → ∃ s r tm, w.heap[b]? = some (.chan x.1 x.2.1 x.2.2 s r tm)
  cnt : ∀ b x s r tm, T.ch b = some x → w.heap[b]? = some (.chan x.1 x.2.1 x.2.2 s r tm) → s = r + x.2.1.size
  chft : ∀ b x, T.ch b = some x → ¬ ft.rd b
  own : T.pend ≠ [] → T.ch T.c = some (0, #[], false)
  nd : T.pend.Nodup
  ixr : ∀ k ∈ T.pend, 0 < ix k ∧ ix k < gs.size
  inj : ∀ k ∈ T.pend, ∀ l ∈ T.pend, ix k = ix l → k = l
  pnd : ∀ k ∈ T.pend, ∃ g, gs[ix k]? = some g ∧ Deaf t (ix k) = 0 ∧ ((∃ wi fi, st (ix k) = .way wi fi ∧ WayOk P T t (ix k) k ft w g wi fi) ∨ (st (ix k) = .park ∧ ParkOk P T k g))
  old : ∀ i g, 0 < i → gs[i]? = some g → (∀ k ∈ T.pend, ix k ≠ i) → ∃ n, st i = .quit n ∧ QuitsD P n (Deaf t i) g
  disj : ∀ k ∈ T.pend, ∀ l ∈ T.pend, k ≠ l → ∀ wk fk wl fl, st (ix k) = .way wk fk → st (ix l) = .way wl fl → ∀ b, fk.wr b → ¬ fl.rd b
  above : ∀ j, gs.size ≤ j → Deaf t j = 0
  hears : Deaf t 0 = 0
  clean : ∀ said, ¬ Race said t
  known : KnowsOk t 0 ft
  done : ∀ i a, touchAt t i = some a → a.loc.isMemory = true → Knows t 0 i ∨ ∃ k ∈ T.pend, t.g? i = some (ix k)
  seen : ∀ op ∈ t, op.act.low w.heap.size
def MainOk (T : Crew) (g : Goroutine) : Prop := g.status = .running ∨ ∃ g₂ z sh, g = parked g₂ #[rcase T.c z] sh ∧ T.ch T.c = some (0, #[], false)
def JC (P : Program) (W0 : World) (Post : Value → World → Prop) (T : Crew) (g : Goroutine) (w : World) (ft : Foot) : Prop :=
  ∀ (gs : Array Goroutine) (w₁ : World) (sl : Option (Nat × Nat)) (t : Trace) (st : Nat → WS) (ix : Nat → Nat), RelyW ft w w₁ → gs[0]? = some g → Inv P W0 T ft gs w₁ t st ix → Ends P Post (crowd gs w₁ sl) t
section
variable {P : Program} {W0 : World} {Post : Value → World → Prop} {T : Crew} {g : Goroutine} {w w₁ w' : World} {ft : Foot} {gs : Array Goroutine} {t : Trace} {st : Nat → WS} {ix : Nat → Nat} {i : Nat} {sl : Option (Nat × Nat)}
theorem Inv.at (I : Inv P W0 T ft gs w t st ix) (d : Nat) : Inv P W0 T ft gs (w.at d) t st ix where
  base := ⟨I.base.tape, I.base.os, I.base.output, I.base.size⟩
  lt := I.lt
  sub := I.sub
  chan := I.chan
  cnt := I.cnt
  chft := I.chft
  own := I.own
  nd := I.nd
  ixr := I.ixr
  inj := I.inj
  pnd := fun k hk => by
    obtain ⟨g, h1, h2, h3⟩ := I.pnd k hk
    refine ⟨g, h1, h2, h3.imp (fun ⟨wi, fi, e, W⟩ => ⟨wi, fi, e, ?_⟩) id⟩
    exact ⟨W.way, W.rely.trans (relyW_at fi w d), W.lt, W.sub, W.ch, W.d1, W.d2, W.know⟩
  old := I.old
  disj := I.disj
  above := I.above
  hears := I.hears
  clean := I.clean
  known := I.known
  done := I.done
  seen := I.seen
theorem moved_get {f : Goroutine → Goroutine} {g' : Goroutine} {j : Nat} {y : Goroutine} (hne : i ≠ j) (h : ((gs.map f).setIfInBounds i g')[j]? = some y) : ∃ z, gs[j]? = some z ∧ y = f z := by
  rw [Array.getElem?_setIfInBounds_ne hne, Array.getElem?_map] at h
  obtain ⟨z, hz, e⟩ := Option.map_eq_some_iff.1 h
  exact ⟨z, hz, e.symm⟩
theorem moved_put {f : Goroutine → Goroutine} {g' : Goroutine} {j : Nat} {z : Goroutine} (hne : i ≠ j) (h : gs[j]? = some z) (e : f z = z) : ((gs.map f).setIfInBounds i g')[j]? = some z := by
  rw [Array.getElem?_setIfInBounds_ne hne, Array.getElem?_map, h]
  simp [e]
theorem moved_own {f : Goroutine → Goroutine} {g g' : Goroutine} (h : gs[i]? = some g) : ((gs.map f).setIfInBounds i g')[i]? = some g' := by
  have hlt := (Array.getElem?_eq_some_iff.1 h).1
  rw [Array.getElem?_setIfInBounds_self_of_lt (by simpa using hlt)]
theorem main_still {x g' : Goroutine} (hm : MainOk T g) (hc : T.ch T.c = some (0, #[], false) → ∃ s r tm, w'.heap[T.c]? = some (.chan 0 #[] false s r tm)) : woken P x g' w' g = g := by
  rcases hm with h | ⟨g₂, z, sh, rfl, h⟩
  · exact woken_run h
  · obtain ⟨s, r, tm, h⟩ := hc h
    exact woken_recv_open _ _ h
theorem pend_still {x g' y : Goroutine} {k : Nat} (_hc : T.ch T.c = some (0, #[], false)) (hch : ∃ s r tm, w'.heap[T.c]? = some (.chan 0 #[] false s r tm)) (h : (∃ wi fi, WayOk P T t i k ft w y wi fi) ∨ ParkOk P T k y) : woken P x g' w' y = y := by
  rcases h with ⟨wi, fi, W⟩ | ⟨g₂, v, z, rfl, _⟩
  · exact woken_run W.way.running
  · obtain ⟨s, r, tm, h⟩ := hch
    exact woken_send_open _ _ h
theorem deaf_evs {fi : Foot} {fn : FuncId} {pos : String} {es : Array Event} {n : Nat} (he : ∀ e ∈ es, EvOk fi e) (hb : ∀ b, fi.rd b → b < n) (j : Nat) : Deaf (t ++ MemOp.ofEvents i fn pos es) j = Deaf t j := by
  by_cases h : i = j
  · subst h
    rw [Deaf_own]
    exact deafBehind_still (fun e hm => ⟨(evL_of (he e hm) hb).2.1, (evL_of (he e hm) hb).2.2.1⟩) _
  · rw [Deaf_other t h _ (fun op hop => mem_g hop)]
theorem g_app {u : Trace} {j : Nat} {y : Nat} (h : t.g? j = some y) : (t ++ u).g? j = some y := by
  unfold Trace.g? at h ⊢
  obtain ⟨z, hz, e⟩ := Option.map_eq_some_iff.1 h
  rw [getElem?_append_old (lt_size_of_getElem? hz), hz]
  simp [e]
theorem done_mute {u : Trace} (hd : ∀ i a, touchAt t i = some a → a.loc.isMemory = true → Knows t 0 i ∨ ∃ k ∈ T.pend, t.g? i = some (ix k)) (hu : ∀ op ∈ u, op.act.touch? = none) :
    ∀ i a, touchAt (t ++ u) i = some a → a.loc.isMemory = true → Knows (t ++ u) 0 i ∨ ∃ k ∈ T.pend, (t ++ u).g? i = some (ix k) := by
  intro i a ha hm
  rcases touch_app ha with ⟨_, h⟩ | ⟨op, hop, _, h⟩
  · exact (hd i a h hm).imp (·.app u) fun ⟨k, hk, e⟩ => ⟨k, hk, g_app e⟩
  · rw [hu op hop] at h; cases h
theorem Inv.quit (I : Inv P W0 T ft gs w t st ix) {x g' : Goroutine} {es : Array Event} {m : Nat} (hpos : 0 < i) (hi : gs[i]? = some x) (hn : ∀ k ∈ T.pend, ix k ≠ i) (hm : ∀ e ∈ es, Event.mute e = true)
    (hq : QuitsD P m (deafBehind (Deaf t i) es) g') : Inv P W0 T ft ((gs.map (woken P x g' w)).setIfInBounds i g') w (t ++ MemOp.ofEvents i x.frame.fn x.frame.place es) (putAt st i (.quit m)) ix := by
  have htn : ∀ op ∈ MemOp.ofEvents i x.frame.fn x.frame.place es, op.act.touch? = none := fun op hop => by
    obtain ⟨e, he, rfl⟩ := Go.Conc.mem_ofEvents hop
    exact touch_mute (hm e he)
  have hdo : ∀ j, i ≠ j → Deaf (t ++ MemOp.ofEvents i x.frame.fn x.frame.place es) j = Deaf t j := fun j hj => Deaf_other t hj _ (fun op hop => mem_g hop)
  have hlt : i < gs.size := (Array.getElem?_eq_some_iff.1 hi).1
  refine { base := I.base, lt := I.lt, sub := I.sub, chan := I.chan, cnt := I.cnt, chft := I.chft, own := I.own, nd := I.nd, ixr := fun k hk => ?_, inj := I.inj, pnd := fun k hk => ?_, old := fun j y hj hy hnj => ?_, disj := fun k hk l hl hkl wk fk wl fl e1 e2 => ?_, above := fun j hj => ?_, hears := ?_, clean := fun said => ?_, known := I.known.mute htn, done := done_mute I.done htn, seen := ?_ }
  · simpa using I.ixr k hk
  · obtain ⟨y, h1, h2, h3⟩ := I.pnd k hk
    have hne : i ≠ ix k := fun e => hn k hk e.symm
    have hown := I.own (List.ne_nil_of_mem hk)
    have hst : woken P x g' w y = y := pend_still (t := t) (i := ix k) (ft := ft) (w := w) hown (I.chan _ _ hown) (h3.imp (fun ⟨a, b, _, c⟩ => ⟨a, b, c⟩) fun h => h.2)
    refine ⟨y, moved_put hne h1 hst, by rw [hdo _ hne]; exact h2, ?_⟩
    rw [putAt_ne _ _ (Ne.symm hne)]
    refine h3.imp (fun ⟨wi, fi, e, W⟩ => ⟨wi, fi, e, W.way, W.rely, W.lt, W.sub, W.ch, W.d1, W.d2, W.know.mute htn⟩) id
  · by_cases hji : i = j
    · subst hji
      rw [moved_own hi] at hy
      cases hy
      exact ⟨m, putAt_self _ _ _, by rw [Deaf_own]; exact hq⟩
    · obtain ⟨z, hz, rfl⟩ := moved_get hji hy
      obtain ⟨n, e, hqz⟩ := I.old j z hj hz hnj
      refine ⟨n, by rw [putAt_ne _ _ (Ne.symm hji)]; exact e, ?_⟩
      rw [woken_quitsD hqz, hdo _ hji]
      exact hqz
  · rw [putAt_ne _ _ (hn k hk)] at e1
    rw [putAt_ne _ _ (hn l hl)] at e2
    exact I.disj k hk l hl hkl wk fk wl fl e1 e2
  · have : i ≠ j := by simp at hj; omega
    rw [hdo _ this]
    exact I.above j (by simpa using hj)
  · rw [hdo _ (by omega)]
    exact I.hears
  · exact noRace_append (I.clean said) (fun op hop => mem_g hop) fun _ _ _ op hop b hb _ => by rw [htn op hop] at hb; cases hb
  · exact seen_app I.seen fun op hop => by
      obtain ⟨e, he, rfl⟩ := Go.Conc.mem_ofEvents hop
      exact low_mute (hm e he) _
theorem Inv.walk (I : Inv P W0 T ft gs w t st ix) {k : Nat} (hk : k ∈ T.pend) {x g' : Goroutine} {es : Array Event} {wi : World} {fi : Foot} (hi : gs[ix k]? = some x) (hst : st (ix k) = .way wi fi) (W : WayOk P T t (ix k) k ft w x wi fi)
    (hgu : GuarW fi w w' es) (hto : Toward P (AtSend P T.c (T.phi k)) g' w' (fi.ext w.heap.size w'.heap.size)) :
    Inv P W0 T ft ((gs.map (woken P x g' w')).setIfInBounds (ix k) g') w' (t ++ MemOp.ofEvents (ix k) x.frame.fn x.frame.place es) (putAt st (ix k) (.way w' (fi.ext w.heap.size w'.heap.size))) ix := by
  have hsz := hgu.size
  have hdf := fun j => deaf_evs (t := t) (i := ix k) (fn := x.frame.fn) (pos := x.frame.place) hgu.evs W.lt j
  have hch : ∀ b y, T.ch b = some y → ∃ s r tm, w'.heap[b]? = some (.chan y.1 y.2.1 y.2.2 s r tm) := fun b y hb => by
    obtain ⟨s, r, tm, e⟩ := I.chan b y hb
    have hlt : b < w.heap.size := (Array.getElem?_eq_some_iff.1 e).1
    exact ⟨s, r, tm, by rw [hgu.heap b hlt fun hw => W.ch b y hb (W.sub b hw)]; exact e⟩
  have hcnt : ∀ b y s r tm, T.ch b = some y → w'.heap[b]? = some (.chan y.1 y.2.1 y.2.2 s r tm) → s = r + y.2.1.size := fun b y s r tm hb hw' => by
    obtain ⟨s', r', tm', e⟩ := I.chan b y hb
    have hlt : b < w.heap.size := (Array.getElem?_eq_some_iff.1 e).1
    rw [hgu.heap b hlt fun hw => W.ch b y hb (W.sub b hw)] at hw'
    exact I.cnt b y s r tm hb hw'
  have hown := I.own (List.ne_nil_of_mem hk)
  have other : ∀ {fy : Foot}, (∀ b, fi.wr b → ¬ fy.rd b) → (∀ b, fy.rd b → b < w.heap.size) → ∀ b, fy.rd b → w'.heap[b]? = w.heap[b]? := fun hd hl b hb => hgu.heap b (hl b hb) fun hw => hd b hw hb
  refine { base := ⟨hgu.tape.trans I.base.tape, hgu.os.trans I.base.os, hgu.output.trans I.base.output, Nat.le_trans I.base.size hsz⟩, lt := fun b hb => Nat.lt_of_lt_of_le (I.lt b hb) hsz, sub := I.sub, chan := hch, cnt := hcnt, chft := I.chft, own := I.own, nd := I.nd, ixr := fun l hl => ?_, inj := I.inj, pnd := fun l hl => ?_, old := fun j y hj hy hnj => ?_, disj := fun a ha b hb hab wa fa wb fb e1 e2 => ?_, above := fun j hj => ?_, hears := ?_, clean := fun said => W.know.noRace (I.clean said) hgu.evs, known := I.known.other hgu.evs W.d1 W.d2, done := fun j a ha hm => ?_, seen := ?_ }
  · simpa using I.ixr l hl
  · by_cases hlk : l = k
    · subst hlk
      refine ⟨g', moved_own hi, by rw [hdf]; obtain ⟨_, _, h2, _⟩ := I.pnd l hk; exact h2, .inl ⟨w', _, putAt_self _ _ _, ?_⟩⟩
      refine ⟨hto, RelyW.refl _ _, fun b hb => ?_, fun b hb => ?_, fun b y hb hr => ?_, fun b hb hr => ?_, fun b hb hr => ?_, W.know.own hgu.evs I.seen⟩
      · rcases hb with hb | hb
        · exact Nat.lt_of_lt_of_le (W.lt b hb) hsz
        · exact hb.2
      · rcases hb with hb | hb
        · exact .inl (W.sub b hb)
        · exact .inr hb
      · rcases hr with hr | hr
        · exact W.ch b y hb hr
        · obtain ⟨s, r, tm, e⟩ := I.chan b y hb
          have hlt : b < w.heap.size := (Array.getElem?_eq_some_iff.1 e).1
          omega
      · rcases hb with hb | hb
        · exact W.d1 b hb hr
        · have := I.lt b hr
          omega
      · rcases hr with hr | hr
        · exact W.d2 b hb hr
        · have := I.lt b (I.sub b hb)
          omega
    · obtain ⟨y, h1, h2, h3⟩ := I.pnd l hl
      have hne : ix k ≠ ix l := fun e => hlk (I.inj k hk l hl e).symm
      have hst' : woken P x g' w' y = y := pend_still (t := t) (i := ix l) (ft := ft) (w := w) hown (hch _ _ hown) (h3.imp (fun ⟨a, b, _, c⟩ => ⟨a, b, c⟩) fun h => h.2)
      refine ⟨y, moved_put hne h1 hst', by rw [hdf]; exact h2, ?_⟩
      rw [putAt_ne _ _ (Ne.symm hne)]
      refine h3.imp (fun ⟨wl, fl, e, V⟩ => ⟨wl, fl, e, ?_⟩) id
      have hd := I.disj k hk l hl (fun e => hlk e.symm) wi fi wl fl hst e
      have hd' := I.disj l hl k hk hlk wl fl wi fi e hst
      exact ⟨V.way, V.rely.trans ⟨fun b hb => other hd V.lt b hb, hsz, hgu.tape, hgu.os, hgu.output⟩, fun b hb => Nat.lt_of_lt_of_le (V.lt b hb) hsz, V.sub, V.ch, V.d1, V.d2, V.know.other hgu.evs hd hd'⟩
  · by_cases hji : ix k = j
    · exact absurd hji (hnj k hk)
    · obtain ⟨z, hz, rfl⟩ := moved_get hji hy
      obtain ⟨n, e, hqz⟩ := I.old j z hj hz hnj
      refine ⟨n, by rw [putAt_ne _ _ (Ne.symm hji)]; exact e, ?_⟩
      rw [woken_quitsD hqz, hdf]
      exact hqz
  · have low : ∀ l, l ∈ T.pend → ∀ wl fl, st (ix l) = .way wl fl → ∀ b, fl.rd b → b < w.heap.size := fun l hl wl fl e => by
      obtain ⟨y, _, _, h3⟩ := I.pnd l hl
      rcases h3 with ⟨_, _, e', V⟩ | ⟨e', _⟩
      · rw [e] at e'
        cases e'
        exact V.lt
      · rw [e] at e'
        cases e'
    have sub : ∀ l, l ∈ T.pend → ∀ wl fl, st (ix l) = .way wl fl → ∀ b, fl.wr b → fl.rd b := fun l hl wl fl e => by
      obtain ⟨y, _, _, h3⟩ := I.pnd l hl
      rcases h3 with ⟨_, _, e', V⟩ | ⟨e', _⟩
      · rw [e] at e'
        cases e'
        exact V.sub
      · rw [e] at e'
        cases e'
    by_cases hak : a = k
    · subst hak
      rw [putAt_self] at e1
      cases e1
      have hne : ix b ≠ ix a := fun e => hab (I.inj b hb a ha e).symm
      rw [putAt_ne _ _ hne] at e2
      intro y hy hr
      rcases hy with hy | hy
      · exact I.disj a ha b hb hab wi fi wb fb hst e2 y hy hr
      · have := low b hb wb fb e2 y hr
        omega
    · have hne : ix a ≠ ix k := fun e => hak (I.inj a ha k hk e)
      rw [putAt_ne _ _ hne] at e1
      by_cases hbk : b = k
      · subst hbk
        rw [putAt_self] at e2
        cases e2
        intro y hy hr
        rcases hr with hr | hr
        · exact I.disj a ha b hb hab wa fa wi fi e1 hst y hy hr
        · have := low a ha wa fa e1 y (sub a ha wa fa e1 y hy)
          omega
      · have hne' : ix b ≠ ix k := fun e => hbk (I.inj b hb k hk e)
        rw [putAt_ne _ _ hne'] at e2
        exact I.disj a ha b hb hab wa fa wb fb e1 e2
  · rw [hdf]
    exact I.above j (by simpa using hj)
  · rw [hdf]
    exact I.hears
  · rcases touch_app ha with ⟨_, h⟩ | ⟨op, hop, hg, h⟩
    · exact (I.done j a h hm).imp (·.app _) fun ⟨l, hl, e⟩ => ⟨l, hl, g_app e⟩
    · refine .inr ⟨k, hk, ?_⟩
      unfold Trace.g?
      rw [hg]
      simp [mem_g hop]
  · exact seen_app (fun op hop => MemAct.low_mono hsz (I.seen op hop)) fun op hop => MemAct.low_mono hsz (low_events hgu.evs W.lt op hop)
end
def Crew.less (T : Crew) (k : Nat) : Crew := { T with pend := T.pend.erase k }
def meas (gs : Array Goroutine) (st : Nat → WS) : Nat → Goroutine × WS := fun i => if i = 0 then (default, .quit 0) else (gs.getD i default, st i)
section
variable {P : Program} {W0 : World} {Post : Value → World → Prop} {T : Crew} {g g0 : Goroutine} {w w₁ w' : World} {ft : Foot} {gs gs' : Array Goroutine} {t : Trace} {st st' : Nat → WS} {ix : Nat → Nat} {i k : Nat} {sl : Option (Nat × Nat)}
theorem meas_acc (I : Inv P W0 T ft gs w t st ix) : Acc (Less (WLt P) gs.size) (meas gs st) := by
  refine less_acc _ _ _ fun j hj => ?_
  by_cases h0 : j = 0
  · have e : meas gs st j = (default, .quit 0) := if_pos h0
    rw [e]
    exact acc_quit P _ _
  · have e : meas gs st j = (gs.getD j default, st j) := if_neg h0
    rw [e]
    clear e
    have hg : gs[j]? = some gs[j] := Array.getElem?_eq_getElem hj
    have hd : gs.getD j default = gs[j] := by rw [Array.getD_eq_getD_getElem?, hg]; rfl
    rw [hd]
    by_cases hp : ∃ k ∈ T.pend, ix k = j
    · obtain ⟨k, hk, rfl⟩ := hp
      obtain ⟨y, h1, _, h3⟩ := I.pnd k hk
      rw [hg] at h1
      cases h1
      rcases h3 with ⟨wi, fi, e, W⟩ | ⟨e, _⟩
      · rw [e]
        exact acc_way (atSend_halts P _ _) W.way
      · rw [e]
        exact acc_park P _
    · obtain ⟨n, e, _⟩ := I.old j gs[j] (by omega) hg fun k hk e => hp ⟨k, hk, e⟩
      rw [e]
      exact acc_quit P _ _
theorem meas_less (hi : i < gs.size) (h0 : 0 < i) (_hs : gs'.size = gs.size) {x y : Goroutine} {a b : WS} (hx : gs[i]? = some x) (hy : gs'[i]? = some y) (ha : st i = a) (hb : st' i = b) (hr : WLt P (y, b) (x, a))
    (ho : ∀ j, 0 < j → j ≠ i → gs'[j]? = gs[j]? ∧ st' j = st j) : Less (WLt P) gs.size (meas gs' st') (meas gs st) := by
  refine ⟨i, hi, ?_, fun j hj => ?_⟩
  · have h0' : ¬ i = 0 := by omega
    unfold meas
    rw [if_neg h0', if_neg h0', Array.getD_eq_getD_getElem?, Array.getD_eq_getD_getElem?, hx, hy, ha, hb]
    exact hr
  · by_cases hj0 : j = 0
    · have e1 : meas gs' st' j = (default, .quit 0) := if_pos hj0
      have e2 : meas gs st j = (default, .quit 0) := if_pos hj0
      rw [e1, e2]
    · obtain ⟨e1, e2⟩ := ho j (by omega) hj
      have x1 : meas gs' st' j = (gs'.getD j default, st' j) := if_neg hj0
      have x2 : meas gs st j = (gs.getD j default, st j) := if_neg hj0
      rw [x1, x2, Array.getD_eq_getD_getElem?, Array.getD_eq_getD_getElem?, e1, e2]
theorem Inv.still (I : Inv P W0 T ft gs w t st ix) {x g' : Goroutine} (hc : ∀ b y, T.ch b = some y → ∃ s r tm, w'.heap[b]? = some (.chan y.1 y.2.1 y.2.2 s r tm)) : ∀ (j : Nat) (y : Goroutine), 0 < j → gs[j]? = some y → woken P x g' w' y = y := by
  intro j y hj hy
  by_cases hp : ∃ k ∈ T.pend, ix k = j
  · obtain ⟨k, hk, rfl⟩ := hp
    obtain ⟨z, h1, _, h3⟩ := I.pnd k hk
    rw [hy] at h1
    cases h1
    have hown := I.own (List.ne_nil_of_mem hk)
    exact pend_still (t := t) (i := ix k) (ft := ft) (w := w) hown (hc _ _ hown) (h3.imp (fun ⟨a, b, _, c⟩ => ⟨a, b, c⟩) fun h => h.2)
  · obtain ⟨n, _, hq⟩ := I.old j y hj hy fun k hk e => hp ⟨k, hk, e⟩
    exact woken_quitsD hq
theorem moved_same (I : Inv P W0 T ft gs w t st ix) {x g' : Goroutine} (hc : ∀ b y, T.ch b = some y → ∃ s r tm, w'.heap[b]? = some (.chan y.1 y.2.1 y.2.2 s r tm)) {j : Nat} (h0 : 0 < j) (hj : j ≠ i) : ((gs.map (woken P x g' w')).setIfInBounds i g')[j]? = gs[j]? := by
  rw [Array.getElem?_setIfInBounds_ne (Ne.symm hj), Array.getElem?_map]
  cases e : gs[j]? with
  | none => rfl
  | some y => rw [Option.map_some, I.still hc j y h0 e]
theorem park_put {a : WS} (h : a ≠ .park) : ∀ j, putAt st i a j = .park → st j = .park := fun j e => by
  by_cases hj : j = i
  · subst hj
    rw [putAt_self] at e
    exact absurd e h
  · rwa [putAt_ne _ _ hj] at e
theorem Inv.other (I : Inv P W0 T ft gs w t st ix) (hm : MainOk T g0) (h0 : gs[0]? = some g0) (hpos : 0 < i) {x : Goroutine} (hi : gs[i]? = some x) (hrun : x.status = .running) :
    (∃ gs' w' ops st', runT P (crowd gs w sl) i = (.next (crowd gs' w' sl), ops) ∧ gs'.size = gs.size ∧ gs'[0]? = some g0 ∧ RelyW ft w w' ∧ Inv P W0 T ft gs' w' (t ++ ops) st' ix ∧ Less (WLt P) gs.size (meas gs' st') (meas gs st) ∧ ∀ j, st' j = .park → st j = .park) ∨
    (∃ k wi fi, k ∈ T.pend ∧ ix k = i ∧ st i = .way wi fi ∧ AtSend P T.c (T.phi k) x w fi) := by
  have hi0 : (i == 0) = false := by simp; omega
  have hlt : i < gs.size := (Array.getElem?_eq_some_iff.1 hi).1
  by_cases hp : ∃ k ∈ T.pend, ix k = i
  · obtain ⟨k, hk, rfl⟩ := hp
    obtain ⟨y, h1, _, h3⟩ := I.pnd k hk
    rw [hi] at h1
    cases h1
    rcases h3 with ⟨wi, fi, e, W⟩ | ⟨_, g₂, v, z, rfl, _⟩
    · cases hw : W.way with
      | stop _ hs => exact .inr ⟨k, wi, fi, hk, rfl, e, hs w W.rely⟩
      | step _ h2 h3 =>
        obtain ⟨g', w', es, hgo, hr', hgu⟩ := h2 w W.rely
        have hto := h3 w g' w' es W.rely hgo
        have hI := I.walk hk hi e W hgu hto
        have hch := hI.chan
        have hrel : RelyW ft w w' := ⟨fun b hb => hgu.heap b (I.lt b hb) fun hwr => W.d1 b hwr hb, hgu.size, hgu.tape, hgu.os, hgu.output⟩
        refine .inl ⟨_, w', _, _, runT_crowd_go (P := P) (sl := sl) hi (by rw [hi0]; exact hgo), by simp, ?_, hrel, hI, ?_, park_put (by simp)⟩
        · exact moved_put (by omega) h0 (main_still hm fun h => hch _ _ h)
        · exact meas_less hlt hpos (by simp) hi (moved_own hi) e (putAt_self _ _ _) (.step W.rely hgo) fun j hj hji => ⟨moved_same I hch hj hji, putAt_ne _ _ hji⟩
    · cases hrun
  · have hn : ∀ k ∈ T.pend, ix k ≠ i := fun k hk e => hp ⟨k, hk, e⟩
    obtain ⟨n, e, hq⟩ := I.old i x hpos hi hn
    cases n with
    | zero => rw [hq.1] at hrun; cases hrun
    | succ m =>
      rcases hq with ⟨hf, _⟩ | ⟨_, g', es, hmu, hst, hq'⟩
      · rw [hf] at hrun; cases hrun
      have hI := I.quit hpos hi hn hmu hq'
      refine .inl ⟨_, w, _, _, runT_crowd_go (P := P) (sl := sl) hi (by rw [hi0]; exact hst w), by simp, ?_, RelyW.refl _ _, hI, ?_, park_put (by simp)⟩
      · exact moved_put (by omega) h0 (main_still hm fun h => I.chan _ _ h)
      · exact meas_less hlt hpos (by simp) hi (moved_own hi) e (putAt_self _ _ _) (.less (Nat.lt_succ_self m)) fun j hj hji => ⟨moved_same I I.chan hj hji, putAt_ne _ _ hji⟩
theorem Inv.awake (I : Inv P W0 T ft gs w t st ix) (h0 : gs[0]? = some g0) (hm : MainOk T g0) : ∀ g ∈ gs, awake g := by
  intro y hy
  obtain ⟨j, hj, rfl⟩ := Array.mem_iff_getElem.1 hy
  have hg : gs[j]? = some gs[j] := Array.getElem?_eq_getElem hj
  rcases Nat.eq_zero_or_pos j with rfl | hpos
  · have : gs[0] = g0 := by rw [hg] at h0; exact Option.some.inj h0
    rw [this]
    rcases hm with h | ⟨g₂, z, sh, rfl, _⟩
    · exact awake_of (.inl h)
    · exact awake_of (.inr (.inl rfl))
  · by_cases hp : ∃ k ∈ T.pend, ix k = j
    · obtain ⟨k, hk, rfl⟩ := hp
      obtain ⟨z, h1, _, h3⟩ := I.pnd k hk
      rw [hg] at h1
      cases h1
      rcases h3 with ⟨_, _, _, W⟩ | ⟨_, g₂, v, z, e, _⟩
      · exact awake_of (.inl W.way.running)
      · rw [e]
        exact awake_of (.inr (.inl rfl))
    · obtain ⟨n, _, hq⟩ := I.old j _ hpos hg fun k hk e => hp ⟨k, hk, e⟩
      exact awake_of (hq.status.elim .inl fun x => .inr (.inr x))
theorem Inv.noRecv (I : Inv P W0 T ft gs w t st ix) {j : Nat} {y : Goroutine} (hj : 0 < j) (hy : gs[j]? = some y) (c : Nat) : offersAt y c false = [] := by
  by_cases hp : ∃ k ∈ T.pend, ix k = j
  · obtain ⟨k, hk, rfl⟩ := hp
    obtain ⟨z, h1, _, h3⟩ := I.pnd k hk
    rw [hy] at h1
    cases h1
    rcases h3 with ⟨_, _, _, W⟩ | ⟨_, g₂, v, z, rfl, _⟩
    · exact offersAt_of_not_blocked (by rw [W.way.running]; simp) _ _
    · exact offersAt_parked_send' _ _ _ _ _ _
  · obtain ⟨n, _, hq⟩ := I.old j _ hj hy fun k hk e => hp ⟨k, hk, e⟩
    exact offersAt_of_not_blocked (by rcases hq.status with h | h <;> rw [h] <;> simp) _ _
theorem Inv.parks (I : Inv P W0 T ft gs w t st ix) (hk : k ∈ T.pend) {g₂ : Goroutine} {v z : Value} (hv : T.phi k v) (hq : ∃ n, QuitsD P n 0 (Conc.served g₂ undef)) :
    Inv P W0 T ft (gs.setIfInBounds (ix k) (parked g₂ #[scase T.c v z] .send)) w t (putAt st (ix k) .park) ix := by
  have hlt := I.ixr k hk
  refine { base := I.base, lt := I.lt, sub := I.sub, chan := I.chan, cnt := I.cnt, chft := I.chft, own := I.own, nd := I.nd, ixr := fun l hl => by simpa using I.ixr l hl, inj := I.inj, pnd := fun l hl => ?_, old := fun j y hj hy hnj => ?_, disj := fun a ha b hb hab wa fa wb fb e1 e2 => ?_, above := fun j hj => I.above j (by simpa using hj), hears := I.hears, clean := I.clean, known := I.known, done := I.done, seen := I.seen }
  · by_cases hlk : l = k
    · subst hlk
      obtain ⟨_, _, h2, _⟩ := I.pnd l hl
      exact ⟨_, Array.getElem?_setIfInBounds_self_of_lt hlt.2, h2, .inr ⟨putAt_self _ _ _, g₂, v, z, rfl, hv, hq⟩⟩
    · have hne : ix k ≠ ix l := fun e => hlk (I.inj k hk l hl e).symm
      obtain ⟨y, h1, h2, h3⟩ := I.pnd l hl
      exact ⟨y, by rw [Array.getElem?_setIfInBounds_ne hne]; exact h1, h2, by rw [putAt_ne _ _ (Ne.symm hne)]; exact h3⟩
  · have hne : ix k ≠ j := hnj k hk
    rw [Array.getElem?_setIfInBounds_ne hne] at hy
    rw [putAt_ne _ _ (Ne.symm hne)]
    exact I.old j y hj hy hnj
  · by_cases hak : ix a = ix k
    · rw [hak, putAt_self] at e1; cases e1
    · by_cases hbk : ix b = ix k
      · rw [hbk, putAt_self] at e2; cases e2
      · rw [putAt_ne _ _ hak] at e1
        rw [putAt_ne _ _ hbk] at e2
        exact I.disj a ha b hb hab wa fa wb fb e1 e2
end
section
variable {P : Program} {W0 : World} {Post : Value → World → Prop} {T : Crew} {g g0 : Goroutine} {w w₁ w' : World} {ft : Foot} {gs gs' : Array Goroutine} {t : Trace} {st st' : Nat → WS} {ix : Nat → Nat} {i k : Nat} {sl : Option (Nat × Nat)}
theorem evs_nil (t : Trace) (i : Nat) (fn : FuncId) (pos : String) : t ++ MemOp.ofEvents i fn pos #[] = t := by
  rw [ofEvents_eq]
  simp
theorem JC.main (hrun : g.status = .running) (h : ∀ gs w₁ sl t st ix, RelyW ft w w₁ → gs[0]? = some g → Inv P W0 T ft gs w₁ t st ix → ∃ m' ops, runT P (crowd gs w₁ sl) 0 = (.next m', ops) ∧ Ends P Post m' (t ++ ops)) : JC P W0 Post T g w ft := by
  intro gs w₁ sl t st ix hrel h0 I
  have hacc := meas_acc I
  generalize hM : meas gs st = M at hacc
  generalize hn : gs.size = n at hacc
  induction hacc generalizing gs w₁ sl t st with
  | intro M _ ih =>
    obtain ⟨i, x, d, sl', hi, hx, hst⟩ := crowd_pick (P := P) (w := w₁) (sl := sl) (I.awake h0 (.inl hrun)) ⟨0, g, h0, hrun⟩
    rcases Nat.eq_zero_or_pos i with rfl | hpos
    · obtain rfl : x = g := by rw [h0] at hi; exact (Option.some.inj hi).symm
      obtain ⟨m', ops, hr, he⟩ := h gs (w₁.at d) sl' t st ix (hrel.trans (relyW_at ft w₁ d)) h0 (I.at d)
      exact Ends.next (hst.trans hr) he
    · have hi0 : (i == 0) = false := by simp; omega
      rcases (I.at d).other (sl := sl') (.inl hrun) h0 hpos hi hx with ⟨gs', w', ops, st', hr, hs, h0', hrel', I', hl, _⟩ | ⟨k, wi, fi, hk, rfl, e, g₂, v, z, hgo, hv, hq⟩
      · subst hM hn
        exact Ends.next (hst.trans hr) (ih _ hl gs' w' sl' _ st' ((hrel.trans (relyW_at ft w₁ d)).trans hrel') h0' I' rfl hs)
      · subst hM hn
        have hown := I.own (List.ne_nil_of_mem hk)
        obtain ⟨s, r, tm, hc⟩ := I.chan _ _ hown
        have hr := crowd_waits (P := P) (sl := sl') (gs := gs) (w := w₁.at d) hi (show stepG P (ix k == 0) x (w₁.at d) = _ from by rw [hi0]; exact hgo) fun cc hcc => by
          obtain rfl : cc = scase T.c v z := by simpa using hcc
          refine ways_send_none (w₁ := w₁.at d) hc (Nat.zero_le _) (partners_nil fun j y hy => ?_)
          rcases getElem?_stand _ _ _ _ hy with ⟨_, rfl⟩ | ⟨_, hy⟩
          · rfl
          · rcases Nat.eq_zero_or_pos j with rfl | hj
            · rw [h0] at hy
              cases hy
              exact offersAt_of_not_blocked (by rw [hrun]; simp) _ _
            · exact I.noRecv hj hy _
        refine Ends.next (hst.trans hr) ?_
        rw [evs_nil]
        have hlt := I.ixr k hk
        refine ih _ ?_ (gs.setIfInBounds (ix k) (parked g₂ #[scase T.c v z] .send)) (w₁.at d) sl' t (putAt st (ix k) .park) (hrel.trans (relyW_at ft w₁ d)) (by rw [Array.getElem?_setIfInBounds_ne (by omega)]; exact h0) ((I.at d).parks hk hv hq) rfl (by simp)
        exact meas_less hlt.2 hpos (by simp) hi (Array.getElem?_setIfInBounds_self_of_lt hlt.2) e (putAt_self _ _ _) .park fun j hj hji => ⟨Array.getElem?_setIfInBounds_ne (Ne.symm hji), putAt_ne _ _ hji⟩
theorem Inv.main (I : Inv P W0 T ft gs w t st ix) (_h0 : gs[0]? = some g) {g' : Goroutine} {es : Array Event} (hgu : GuarW ft w w' es) :
    Inv P W0 T (ft.ext w.heap.size w'.heap.size) ((gs.map (woken P g g' w')).setIfInBounds 0 g') w' (t ++ MemOp.ofEvents 0 g.frame.fn g.frame.place es) st ix := by
  have hsz := hgu.size
  have hdf := fun j => deaf_evs (t := t) (i := 0) (fn := g.frame.fn) (pos := g.frame.place) hgu.evs I.lt j
  have heap : ∀ b y, T.ch b = some y → w'.heap[b]? = w.heap[b]? := fun b y hb => by
    obtain ⟨s, r, tm, e⟩ := I.chan b y hb
    exact hgu.heap b (Array.getElem?_eq_some_iff.1 e).1 fun hw => I.chft b y hb (I.sub b hw)
  have hch : ∀ b y, T.ch b = some y → ∃ s r tm, w'.heap[b]? = some (.chan y.1 y.2.1 y.2.2 s r tm) := fun b y hb => by
    rw [heap b y hb]
    exact I.chan b y hb
  refine { base := ⟨hgu.tape.trans I.base.tape, hgu.os.trans I.base.os, hgu.output.trans I.base.output, Nat.le_trans I.base.size hsz⟩, lt := fun b hb => ?_, sub := fun b hb => ?_, chan := hch, cnt := fun b y s r tm hb hw => I.cnt b y s r tm hb (by rw [← heap b y hb]; exact hw), chft := fun b y hb hr => ?_, own := I.own, nd := I.nd, ixr := fun l hl => by simpa using I.ixr l hl, inj := I.inj, pnd := fun l hl => ?_, old := fun j y hj hy hnj => ?_, disj := I.disj, above := fun j hj => ?_, hears := by rw [hdf]; exact I.hears, clean := fun said => I.known.noRace (I.clean said) hgu.evs, known := I.known.own hgu.evs I.seen, done := fun j a ha hm => ?_, seen := ?_ }
  · rcases hb with hb | hb
    · exact Nat.lt_of_lt_of_le (I.lt b hb) hsz
    · exact hb.2
  · rcases hb with hb | hb
    · exact .inl (I.sub b hb)
    · exact .inr hb
  · rcases hr with hr | hr
    · exact I.chft b y hb hr
    · obtain ⟨s, r, tm, e⟩ := I.chan b y hb
      have hlt : b < w.heap.size := (Array.getElem?_eq_some_iff.1 e).1
      omega
  · obtain ⟨y, h1, h2, h3⟩ := I.pnd l hl
    have hpos := (I.ixr l hl).1
    refine ⟨y, moved_put (by omega) h1 (I.still hch _ _ hpos h1), by rw [hdf]; exact h2, h3.imp (fun ⟨wl, fl, e, V⟩ => ⟨wl, fl, e, ?_⟩) id⟩
    have heq : ∀ b, fl.rd b → w'.heap[b]? = w.heap[b]? := fun b hb => hgu.heap b (V.lt b hb) fun hw => V.d2 b hw hb
    refine ⟨V.way, V.rely.trans ⟨heq, hsz, hgu.tape, hgu.os, hgu.output⟩, fun b hb => Nat.lt_of_lt_of_le (V.lt b hb) hsz, V.sub, V.ch, fun b hb hr => ?_, fun b hb hr => ?_, V.know.other hgu.evs V.d2 V.d1⟩
    · rcases hr with hr | hr
      · exact V.d1 b hb hr
      · have := V.lt b (V.sub b hb)
        omega
    · rcases hb with hb | hb
      · exact V.d2 b hb hr
      · have := V.lt b hr
        omega
  · obtain ⟨z, hz, rfl⟩ := moved_get (by omega) hy
    obtain ⟨n, e, hqz⟩ := I.old j z hj hz hnj
    refine ⟨n, e, ?_⟩
    rw [woken_quitsD hqz, hdf]
    exact hqz
  · rw [hdf]
    exact I.above j (by simpa using hj)
  · rcases touch_app ha with ⟨_, h⟩ | ⟨op, hop, hg, h⟩
    · exact (I.done j a h hm).imp (·.app _) fun ⟨l, hl, e⟩ => ⟨l, hl, g_app e⟩
    · have := knows_own hg
      rw [mem_g hop] at this
      exact .inl this
  · exact seen_app (fun op hop => MemAct.low_mono hsz (I.seen op hop)) fun op hop => MemAct.low_mono hsz (low_events hgu.evs I.lt op hop)
theorem JC.closed (P : Program) (W0 : World) (Post : Value → World → Prop) (T : Crew) : Closed P true (JC P W0 Post T) where
  rely := fun h hr gs w₂ sl t st ix hrel h0 I => h gs w₂ sl t st ix (hr.trans hrel) h0 I
  step := fun hrun h => JC.main hrun fun gs w₁ sl t st ix hrel h0 I => by
    obtain ⟨g', w', es, hgo, hr', hgu, hJ⟩ := h w₁ hrel
    refine ⟨_, _, runT_crowd_go (P := P) (sl := sl) (i := 0) h0 (show stepG P (0 == 0) _ w₁ = _ from hgo), ?_⟩
    exact hJ _ w' sl _ st ix (RelyW.refl _ _) (moved_own h0) (I.main h0 hgu)
theorem JC.last {f' : Foot} (hp : T.pend = []) (hrd : ∀ b, f'.rd b → ft.rd b ∨ (T.ch b).isSome = true) (hsub : ∀ b, f'.wr b → f'.rd b)
    (h : ∀ w₂, RelyW ft w w₂ → (∀ b, (T.ch b).isSome = true → b < w₂.heap.size) → J1 P W0 Post g w₂ f') : JC P W0 Post T g w ft := by
  intro gs w₁ sl t st ix hrel h0 I
  have hchl : ∀ b, (T.ch b).isSome = true → b < w₁.heap.size := fun b hb => by
    obtain ⟨x, hx⟩ := Option.isSome_iff_exists.1 hb
    obtain ⟨s, r, tm, e⟩ := I.chan b x hx
    exact (Array.getElem?_eq_some_iff.1 e).1
  refine h w₁ hrel hchl gs w₁ sl t (fun i => match st i with | .quit n => n | _ => 0) (fun b hb => (hrd b hb).elim (I.lt b) (hchl b)) hsub (RelyW.refl _ _) I.base h0 ⟨fun j y hj hy => ?_, I.above⟩ ?_
  · obtain ⟨n, e, hq⟩ := I.old j y hj hy (by rw [hp]; simp)
    rw [e]
    exact hq
  · have kn : ∀ i a, touchAt t i = some a → a.loc.isMemory = true → Knows t 0 i := fun i a ha hm => by
      rcases I.done i a ha hm with h | ⟨k, hk, _⟩
      · exact h
      · rw [hp] at hk
        cases hk
    refine ⟨I.clean, fun i a ha hm => .inl (kn i a ha hm), fun i x hx hne hc => ?_, I.hears, I.seen⟩
    obtain ⟨a, ha, hm, _⟩ := hc
    obtain ⟨q, z, h1, h2, h3⟩ := kn i a ha hm
    rcases h3 with rfl | h3
    · unfold Trace.g? at hx
      rw [h1] at hx
      simp at hx
      omega
    · exact ⟨q, by unfold Trace.g?; rw [h1]; simp [h2], h3⟩
end
end Go.Proofs.Ythnccaajpdnndaa
