/- Parts of the proof, 5. No conditions. -/
import Derived.Test.YtindillghipjjaaK4
import Derived.Test.YtindillghipjjaaK2
import Derived.Test.YtindillghipjjaaK3
namespace Go.Proofs.Ytindillghipjjaa
open Go.Conc
mutual
theorem sub_idV : ∀ v : Value, sub (fun i => i) v = v
  | .pointer (some a) => by simp [sub]
  | .slice (some a) _ _ => by simp [sub]
  | .map (some r) => by simp [sub]
  | .chan (some r) => by simp [sub]
  | .func fn first cap => by
    have hf : subFn (fun i => i) fn = fn := by cases fn <;> simp [subFn]
    simp only [sub, hf, sub_idA first, sub_idA cap]
  | .iface _ v => by simp only [sub, sub_idV v]
  | .agg cs => by simp only [sub, sub_idA cs]
  | .tuple vs => by simp only [sub, sub_idA vs]
  | .bool _ | .int _ _ | .float _ _ | .complex _ _ _ | .string _ | .pointer none | .slice none _ _ | .map none | .chan none | .nilFunc | .nilIface => by simp only [sub]
theorem sub_idA : ∀ a : Array Value, subA (fun i => i) a = a
  | ⟨l⟩ => by simp only [subA, sub_idL l]
theorem sub_idL : ∀ l : List Value, subL (fun i => i) l = l
  | [] => by simp only [subL]
  | v :: l => by simp only [subL, sub_idV v, sub_idL l]
end
section
variable {P : Program} {J : JT} {C : CB} {N : Nat} {ops : Array Oper} {ds : List Nat} {σ : Nat → Nat}
theorem simA_t {a b : Value} (hx : simA σ a b = true) : b = sub σ a := by
  unfold simA at hx
  split at hx <;> first
    | rfl
    | cases hx; done
    | (simp only [Bool.and_eq_true, beq_iff_eq, Nat.beq_eq] at hx; obtain ⟨⟨⟨rfl, rfl⟩, rfl⟩, rfl⟩ := hx; rfl)
    | (simp only [Bool.and_eq_true, beq_iff_eq, Nat.beq_eq] at hx; obtain ⟨rfl, rfl⟩ := hx; rfl)
    | (simp only [beq_iff_eq, Nat.beq_eq] at hx; subst hx; rfl)
theorem simL_t {p : Value → Value → Bool} {g : Value → Value} (hp : ∀ a b, p a b = true → b = g a) : ∀ {a b : List Value}, simL p a b = true → b = a.map g
  | [], [], _ => rfl
  | a :: l, b :: m, hx => by
    unfold simL at hx
    obtain ⟨x, y⟩ := and_t hx
    rw [hp _ _ x, simL_t hp y]
    rfl
  | [], b :: m, hx => by cases hx
  | a :: l, [], hx => by cases hx
theorem simS_t {a b : Value} (hx : simS σ a b = true) : b = sub σ a := by
  unfold simS at hx
  split at hx
  · obtain ⟨x, y⟩ := and_t hx
    obtain ⟨x, z⟩ := and_t x
    have x : _ = _ := Nat.eq_of_beq_eq_true x
    rw [simL_t (g := sub σ) (fun _ _ => simA_t) z, simL_t (g := sub σ) (fun _ _ => simA_t) y, ← x]
    simp only [sub, subFn, subA, subL_eq]
  · exact simA_t hx
theorem simV_t {a b : Value} (hx : simV σ a b = true) : b = sub σ a := by
  unfold simV at hx
  split at hx
  · rw [simL_t (g := sub σ) (fun _ _ => simS_t) hx]
    simp only [sub, subA, subL_eq]
  · rw [simL_t (g := sub σ) (fun _ _ => simS_t) hx]
    simp only [sub, subA, subL_eq]
  · exact simS_t hx
theorem eqP_t {a b : Value} (hx : eqP a b = true) : b = a := by
  unfold eqP at hx
  split at hx
  · simp only [Bool.and_eq_true, beq_iff_eq] at hx
    obtain ⟨rfl, rfl⟩ := hx
    rfl
  · simp only [beq_iff_eq] at hx
    subst hx
    rfl
  · cases hx
theorem eqK_t {a b : Value} (hx : eqK a b = true) : b = a := by
  unfold eqK at hx
  split at hx
  · rw [simL_t (g := id) (fun _ _ => eqP_t) hx]
    simp
  · exact eqP_t hx
theorem simE_t : ∀ {a b : List (Value × Value)}, simE σ a b = true → b = a.map fun e => (e.1, sub σ e.2)
  | [], [], _ => rfl
  | (a, x) :: l, (b, y) :: m, hx => by
    unfold simE at hx
    obtain ⟨p, q⟩ := and_t hx
    obtain ⟨p1, p2⟩ := and_t p
    rw [eqK_t p1, simS_t p2, simE_t q]
    rfl
  | [], b :: m, hx => by cases hx
  | a :: l, [], hx => by cases hx
theorem simO_t {a b : AObj} (hx : simO σ a b = true) : b = subO σ a ∧ a.live = true := by
  unfold simO at hx
  split at hx
  · obtain ⟨x, y⟩ := and_t hx
    obtain ⟨x, z⟩ := and_t x
    rw [simL_t (g := sub σ) (fun _ _ => simS_t) x, beq_iff_eq.1 z, beq_iff_eq.1 y]
    exact ⟨rfl, rfl⟩
  · obtain ⟨x, y⟩ := and_t hx
    rw [simE_t x, beq_iff_eq.1 y]
    exact ⟨rfl, rfl⟩
  · exact ⟨rfl, rfl⟩
  · cases hx
theorem subO_idV {o : AObj} (h : ∀ st pend fn r size params assign body dfr, o ≠ .loop st pend fn r size params assign body dfr) : subO (fun i => i) o = o := by
  cases o with
  | cells c wr sz =>
    simp only [subO]
    congr 1
    exact (List.map_congr_left fun v _ => sub_idV v).trans (List.map_id _)
  | map es wr =>
    simp only [subO]
    congr 1
    refine (List.map_congr_left fun e _ => ?_).trans (List.map_id _)
    rw [sub_idV]
    rfl
  | loop => exact absurd rfl (h _ _ _ _ _ _ _ _ _)
  | _ => rfl
theorem xsame_t {B : Option (List Nat)} {x0 x1 : XH} (hx : xsame B x0 x1 = true) : SameB B (hOf x0) (hOf x1) := by
  unfold xsame at hx
  split at hx
  · cases hx
  · intro b hb
    obtain ⟨o1, h1, hx⟩ := hg_t (List.all_eq_true.1 hx b hb)
    obtain ⟨o0, h0, hx⟩ := hg_t hx
    obtain ⟨e, l⟩ := simO_t hx
    rw [h1, h0, e, subO_idV]
    rintro st pend fn r size params assign body dfr rfl
    cases o1 <;> cases hx
theorem xrd_t {B : Option (List Nat)} {x : Option Nat} (hx : xrd B x = true) : RdOk B x := by
  unfold xrd at hx
  unfold RdOk
  split at hx
  · obtain ⟨y, hy, e⟩ := List.any_eq_true.1 hx
    rw [Nat.beq_eq] at e
    rw [e]
    exact hy
  · rename_i n
    split
    · exact absurd rfl (n _ _ rfl)
    · trivial
theorem allOf_t {A : Nat → Bool} {A' : Nat → Prop} : ∀ (l : List Nat), xall l A = true → (∀ i, A i = true → A' i) → allOf l A'
  | [], _, _ => trivial
  | [i], hx, hk => hk i hx
  | i :: j :: l, hx, hk => by
    unfold xall at hx
    obtain ⟨a, b⟩ := and_t hx
    exact ⟨hk i a, allOf_t (j :: l) b hk⟩
noncomputable def rgOf (l : T Value) (ds : List Nat) : RG := ⟨gt l, ds⟩
theorem gt_set {l l' : T Value} {d : Nat} {v : Value} (h : ∀ j, tget unk l' j = if j = d then v else tget unk l j) : (fun t => bif t == d then v else gt l t) = gt l' := by
  funext t
  unfold gt
  rw [h]
  by_cases e : t = d
  · subst e; simp
  · have e1 : (t == d) = false := by simpa using e
    simp [e1, e]
theorem xput_t {d : Option Nat} {v : Value} {l : T Value} {k : T Value → Bool} (hx : xput d v l k = true) : ∃ l', (rgOf l ds).putO d v = rgOf l' ds ∧ k l' = true := by
  cases d with
  | none => exact ⟨l, rfl, hx⟩
  | some d =>
    simp only [xput, fV_eq] at hx
    obtain ⟨l', h1, h2⟩ := tset_t _ hx
    exact ⟨l', by simp only [RG.putO, RG.p, rgOf]; rw [gt_set h2], h1⟩
def CSound (P : Program) (J : JT) (C : CB) : Prop := ∀ g args x K, C g args x K = true → Good P J g args (hOf x) (KP K)
theorem xopW_t (hC : CSound P J C) {o : Oper} {r : Nat → Value} {x : XH} {K : KB} (hx : xopW P C o.op r x K = true) : opW P (Good P J) o r (hOf x) (KP K) := by
  unfold xopW at hx
  unfold opW
  split at hx
  · rename_i e
    simp only [e]
    rw [fL_eq] at hx
    unfold xcallV at hx
    unfold callV
    split at hx
    · rename_i e2
      simp only [e2]
      obtain ⟨a, b⟩ := and_t hx
      rw [a, cond_true]
      exact hC _ _ _ _ b
    · rename_i e2
      simp only [e2]
      exact hC _ _ _ _ hx
    · cases hx
  · rename_i n
    split
    · rename_i x args ats e
      exact absurd e (n _ _ _)
    · exact xaop_t hx
theorem aop_mono {h : List AObj} {o : Op} {r : Nat → Value} {K K' : Value → List AObj → Prop} (hK : aop P o r h K) (hk : ∀ v h, K v h → K' v h) : aop P o r h K' := by
  by_cases hf : freeOp P o = true
  · obtain ⟨v, a, b⟩ := aop_free hf hK
    exact b h K' (fun _ _ => rfl) (hk _ _ a)
  unfold aop at hK ⊢
  split at hK
  · exact hk _ _ hK
  · exact hk _ _ hK
  · exact absurd rfl hf
  · split at hK
    · exact (hk _ _ hK : aAlloc _ h K')
    · exact hK.elim
  · exact ⟨hK.1, hk _ _ hK.2⟩
  · exact absurd rfl hf
  · split at hK
    · rename_i e0
      try simp only [e0]
      split at hK
      · rename_i e1 e2 e3
        try simp only [e1, e2, e3]
        obtain ⟨c, k1, k2⟩ := pin_aFill _ _ _ hK.2
        exact ⟨hK.1, k2 _ (hk _ _ k1)⟩
      · exact hK.elim
    · exact hK.elim
  · exact absurd rfl hf
  · split at hK
    · rename_i e
      try simp only [e]
      unfold aStore at hK ⊢
      split at hK
      · split at hK
        · rename_i e2
          try simp only [e2]
          exact ⟨hK.1, hK.2.1, hK.2.2.1, hk _ _ hK.2.2.2⟩
        · exact hK.elim
      · exact hK.elim
    · exact hK.elim
  · exact absurd rfl hf
  · exact absurd rfl hf
  · exact absurd rfl hf
  · split at hK
    · rename_i e0
      exact absurd (by simp only [freeOp, e0]) hf
    · rename_i e0
      try simp only [e0]
      split at hK
      · rename_i e1 e2
        try simp only [e1, e2]
        obtain ⟨v, a, b⟩ := pin_aB2S _ hK
        exact b (fun v => K' v h) (hk _ _ a)
      · exact hK.elim
    · exact hK.elim
  · exact absurd rfl hf
  · exact hk _ _ hK
  · split at hK
    · rename_i e0
      try simp only [e0]
      split at hK
      · rename_i e1
        try simp only [e1]
        refine ⟨hK.1, ?_⟩
        have hK := hK.2
        unfold aMkC at hK ⊢
        split at hK
        · exact ⟨hK.1, hk _ _ hK.2⟩
        · exact hK.elim
      · exact hK.elim
    · exact hK.elim
  · split at hK
    · rename_i e0
      try simp only [e0]
      split at hK
      · rename_i e1 e2 e3
        try simp only [e1, e2, e3]
        refine ⟨hK.1, ?_⟩
        have hK := hK.2
        unfold aMkS at hK ⊢
        split at hK
        · exact ⟨hK.1, hK.2.1, hK.2.2.1, hk _ _ hK.2.2.2⟩
        · exact hK.elim
      · exact hK.elim
    · exact hK.elim
  · split at hK
    · rename_i e0
      try simp only [e0]
      split at hK
      · rename_i e1
        try simp only [e1]
        unfold aSl3 at hK ⊢
        split at hK
        · exact ⟨hK.1, hK.2.1, hK.2.2.1, hk _ _ hK.2.2.2⟩
        · exact hK.elim
      · exact hK.elim
    · exact hK.elim
  · split at hK
    · rename_i e0
      try simp only [e0]
      obtain ⟨v, a, b⟩ := pin_aSlStr _ hK
      exact b (fun v => K' v h) (hk _ _ a)
    · rename_i e0
      try simp only [e0]
      split at hK
      · rename_i e1
        try simp only [e1]
        obtain ⟨v, a, b⟩ := pin_aSl2 _ hK
        exact b (fun v => K' v h) (hk _ _ a)
      · exact hK.elim
    · rename_i e0
      try simp only [e0]
      split at hK
      · rename_i e1
        try simp only [e1]
        obtain ⟨v, a, b⟩ := pin_aSlA _ hK
        exact b (fun v => K' v h) (hk _ _ a)
      · exact hK.elim
    · exact hK.elim
  · exact absurd rfl hf
  · exact absurd rfl hf
  · exact absurd rfl hf
  · exact absurd rfl hf
  · exact absurd rfl hf
  · refine ⟨hK.1, ?_⟩
    have hK := hK.2
    unfold aUpd at hK ⊢
    split at hK
    · rename_i e0
      try simp only [e0]
      split at hK
      · rename_i e1
        try simp only [e1]
        exact ⟨hK.1, hK.2.1, hK.2.2.1, hk _ _ hK.2.2.2⟩
      · exact hK.elim
    · exact hK.elim
  · exact absurd rfl hf
  · split at hK
    · exact absurd rfl hf
    · exact absurd rfl hf
    · exact absurd rfl hf
    · exact absurd rfl hf
    · split at hK
      · rename_i e1 e2 _ _ _ _ e3 e4
        try simp only [e1, e2, e3, e4]
        split at hK
        · rename_i e5 e6 e7
          try simp only [e5, e6, e7]
          refine ⟨hK.1, ?_⟩
          have hK := hK.2
          unfold aApp at hK ⊢
          split at hK
          · refine ⟨hK.1, srcCells_mono hK.2 fun ys hy => ?_⟩
            split at hy
            · exact ⟨hy.1, fun e => hk _ _ (hy.2.1 e), fun e => hk _ _ (hy.2.2 e)⟩
            · split at hy
              · rename_i e8
                try simp only [e8]
                refine ⟨hy.1, fun e => ⟨fun e2 => ?_, fun e2 => hk _ _ ((hy.2.1 e).2 e2)⟩, fun e => ?_⟩
                · have := (hy.2.1 e).1 e2
                  exact ⟨this.1, this.2.1, hk _ _ this.2.2⟩
                · have := hy.2.2 e
                  exact ⟨this.1, this.2.1, this.2.2.1, this.2.2.2.1, hk _ _ this.2.2.2.2⟩
              · exact hy.elim
            · exact hy.elim
          · exact hK.elim
        · exact hK.elim
      · rename_i e1 e2 _ _ _ _ _ e3 e4
        try simp only [e1, e2, e3, e4]
        split at hK
        · rename_i e5 e6 e7
          try simp only [e5, e6, e7]
          refine ⟨hK.1, ?_⟩
          have hK := hK.2
          unfold aAppZ at hK ⊢
          split at hK
          · exact ⟨hK.1, fun e => hk _ _ (hK.2.1 e), fun e => hk _ _ (hK.2.2 e)⟩
          · exact hK.elim
        · exact hK.elim
      · exact hK.elim
    · split at hK
      · rename_i e1 e2 _ _ _ _ e3 e4
        try simp only [e1, e2, e3, e4]
        split at hK
        · rename_i e5
          try simp only [e5]
          refine ⟨hK.1, ?_⟩
          have hK := hK.2
          unfold aCopy at hK ⊢
          split at hK
          · refine srcCells_mono hK fun ys hy => ?_
            split at hy
            · exact hk _ _ hy
            · split at hy
              · rename_i e8
                try simp only [e8]
                exact ⟨hy.1, hk _ _ hy.2⟩
              · exact hy.elim
            · exact hy.elim
          · exact hK.elim
        · exact hK.elim
      · exact hK.elim
    · exact hK.elim
  · exact hK.elim
theorem opW_mono {h : List AObj} {o : Oper} {r : Nat → Value} {K K' : Value → List AObj → Prop} (hK : opW P (Good P J) o r h K) (hk : ∀ v h, K v h → K' v h) : opW P (Good P J) o r h K' := by
  unfold opW at hK ⊢
  split at hK
  · rename_i e
    try simp only [e]
    unfold callV at hK ⊢
    split at hK
    · rename_i g first cap e2
      try simp only [e2]
      cases hb : Nat.blt g P.funcs.size with
      | true => rw [hb] at hK; exact Good.mono hK hk
      | false => rw [hb] at hK; exact hK.elim
    · rename_i e2
      try simp only [e2]
      exact Good.mono hK hk
    · exact hK.elim
  · exact aop_mono hK hk
def skOk (sk : List Nat) (dec : Dec) : Prop := ∀ j ∈ sk, dfind j dec = some none
theorem xgd_gd {sk : List Nat} {o : Oper} {r : Nat → Value} {w : Bool} (hg : xgd ops sk o r = some w) : gd ops o r = some w := by
  unfold xgd at hg
  unfold gd
  split at hg
  · rename_i e; rw [e]; exact hg
  · rename_i j want e
    rw [e]
    simp only [bind_dst]
    split at hg
    · rename_i t ht
      rw [ht]
      simp only
      split at hg
      · rename_i e2; rw [e2]; exact hg
      · rename_i e2
        rw [e2]
        cases hs : sk.any fun i => Nat.beq i j with
        | true => rw [hs] at hg; exact hg
        | false => rw [hs] at hg; cases hg
      · cases hg
    · cases hg
theorem goG_ex {sk : List Nat} {dec : Dec} {o : Oper} {f : RG} {w : Bool} (hg : xgd ops sk o f.r = some w) (hd : decOk ops dec f) (hs : skOk sk dec) : ∃ dec', decOk ops dec' f ∧ skOk sk dec' ∧ ∀ A : Bool → Dec → RG → Prop, A w dec' f → goG ops dec o f A := by
  unfold xgd at hg
  unfold goG
  cases hgu : o.guard with
  | none =>
    rw [hgu] at hg
    cases hg
    exact ⟨dec, hd, hs, fun A h => h⟩
  | some jw =>
    obtain ⟨j, want⟩ := jw
    rw [hgu] at hg
    simp only at hg ⊢
    cases hdst : dstOf ops j with
    | none => rw [hdst] at hg; cases hg
    | some t =>
      rw [hdst] at hg
      simp only at hg
      split at hg
      · rename_i b hb
        cases hg
        cases hf : dfind j dec with
        | some b' =>
          obtain ⟨t', h1, h2⟩ := hd j b' hf
          rw [hdst] at h1
          cases h1
          rw [hb] at h2
          cases b' with
          | none => cases h2
          | some b' =>
            cases h2
            exact ⟨dec, hd, hs, fun A h => h⟩
        | none =>
          refine ⟨(j, some b) :: dec, fun i x hi => ?_, fun i hi => ?_, fun A h => ?_⟩
          · unfold dfind at hi
            by_cases e : j = i
            · subst e
              simp at hi
              subst hi
              exact ⟨t, hdst, hb⟩
            · have : (j == i) = false := by simpa using e
              rw [this, cond_false] at hi
              exact hd i x hi
          · have hi' := hs i hi
            unfold dfind
            have : (j == i) = false := by
              have : j ≠ i := fun e => by rw [e] at hf; rw [hf] at hi'; cases hi'
              simpa using this
            rw [this, cond_false]
            exact hi'
          · simp only
            rw [hb]
            cases b with
            | true =>
              show A _ _ (f.p t (.bool true))
              rw [put_self hb]
              exact h
            | false =>
              show A _ _ (f.p t (.bool false))
              rw [put_self hb]
              exact h
      · rename_i hb
        cases hk : sk.any fun i => Nat.beq i j with
        | false => rw [hk] at hg; cases hg
        | true =>
          rw [hk, cond_true] at hg
          cases hg
          obtain ⟨i, hi, e⟩ := List.any_eq_true.1 hk
          have e : i = j := Nat.eq_of_beq_eq_true e
          subst e
          rw [hs i hi]
          exact ⟨dec, hd, hs, fun A h => h⟩
      · cases hg
theorem dfind_drop {d j : Nat} (hj : dstOf ops j ≠ some d) : ∀ {dec : Dec}, dfind j (forget ops (some d) dec) = dfind j dec
  | [] => rfl
  | (i, c) :: l => by
    have ih := dfind_drop hj (dec := l)
    unfold forget at ih ⊢
    simp only [List.filter_cons]
    by_cases e : i = j
    · subst e
      have hne : (dstOf ops i == some d) = false := by simpa using hj
      simp [hne, dfind]
    · have hij : (i == j) = false := by simpa using e
      have e2 : ∀ l' : Dec, dfind j ((i, c) :: l') = dfind j l' := fun l' => by
        show (bif i == j then some c else dfind j l') = _
        rw [hij, cond_false]
      split
      · rw [e2, e2]
        exact ih
      · rw [e2]
        exact ih
theorem skDrop_ok {sk : List Nat} {dec : Dec} {d : Option Nat} (hs : skOk sk dec) : skOk (skDrop ops d sk) (forget ops d dec) := by
  unfold skDrop
  split
  · intro j hj; cases hj
  · exact hs
  · rename_i d _
    intro j hj
    obtain ⟨h1, h2⟩ := List.mem_filter.1 hj
    rw [dfind_drop]
    · exact hs j h1
    · intro e
      rw [e] at h2
      simp at h2
theorem skAdd_ok {sk : List Nat} {dec : Dec} {i : Nat} {d : Option Nat} (hs : skOk sk dec) : skOk (skAdd ops i d sk) (skipD ops i d dec) := by
  cases d with
  | none => exact hs
  | some d =>
    intro j hj
    unfold skipD dfind
    by_cases e : i = j
    · subst e; simp
    · have hij : (i == j) = false := by simpa using e
      rw [hij, cond_false]
      rcases List.mem_cons.1 hj with rfl | hj
      · exact absurd rfl e
      · exact skDrop_ok (d := some d) hs j hj
def LP (ds : List Nat) (K : LB) : RG → List AObj → Prop := fun f h => ∃ l x, f = rgOf l ds ∧ h = hOf x ∧ K l x = true
theorem xops_t (hC : CSound P J C) : ∀ (os : List Nat) {sk : List Nat} {dec : Dec} {l : T Value} {x : XH} {K : LB}, decOk ops dec (rgOf l ds) → skOk sk dec → xops P C N ops os l x sk K = true → opsW P (Good P J) N ops os dec (rgOf l ds) (hOf x) (LP ds K)
  | [], sk, dec, l, x, K, hd, hs, hx => ⟨l, x, rfl, rfl, hx⟩
  | i :: os, sk, dec, l, x, K, hd, hs, hx => by
    change (match ops[i]? with
      | some o => dstOk N o && match xgd ops sk o (gt l) with
        | some true => xopW P C o.op (gt l) x fun v h => xput o.dst v l fun l => xops P C N ops os l h (skDrop ops o.dst sk) K
        | some false => xput o.dst undef l fun l => xops P C N ops os l x (skAdd ops i o.dst sk) K
        | none => false
      | none => false) = true at hx
    unfold opsW
    split at hx
    · rename_i o ho
      rw [ho]
      simp only
      obtain ⟨a, hx⟩ := and_t hx
      rw [a, cond_true]
      split at hx
      · rename_i hg
        obtain ⟨dec', hd', hs', hgo⟩ := goG_ex (f := rgOf l ds) hg hd hs
        refine hgo _ ?_
        rw [cond_true]
        refine opW_mono (xopW_t hC hx) fun v h' hk => ?_
        obtain ⟨x', rfl, hk⟩ := hk
        obtain ⟨l', e, hk⟩ := xput_t (ds := ds) hk
        have hd2 := decOk_put (v := v) (d := o.dst) hd'
        rw [e] at hd2 ⊢
        exact xops_t hC os hd2 (skDrop_ok hs') hk
      · rename_i hg
        obtain ⟨dec', hd', hs', hgo⟩ := goG_ex (f := rgOf l ds) hg hd hs
        refine hgo _ ?_
        rw [cond_false]
        obtain ⟨l', e, hk⟩ := xput_t (ds := ds) hx
        have hd2 := decOk_skip ho hd'
        rw [e] at hd2 ⊢
        exact xops_t hC os hd2 (skAdd_ok hs') hk
      · cases hx
    · cases hx
theorem xany_t (hC : CSound P J C) {B : Option (List Nat)} {x0 : XH} : ∀ (n : Nat) (L : Array Bool) (sok : Bool) (dec : Dec) {sk : List Nat} {l : T Value} {x : XH} {K : LB}, decOk ops dec (rgOf l ds) → skOk sk dec → xany P C N ops B x0 n L sok l x sk K = true → anyW P (Good P J) N ops B (hOf x0) n L sok dec (rgOf l ds) (hOf x) (LP ds K) := by
  intro n
  induction n with
  | zero =>
    intro L sok dec sk l x K hd hs hx
    unfold xany at hx
    unfold anyW
    obtain ⟨a, b⟩ := and_t hx
    rw [a, cond_true]
    exact ⟨l, x, rfl, rfl, b⟩
  | succ n ih =>
    intro L sok dec sk l x K hd hs hx
    unfold xany at hx
    unfold anyW
    split at hx
    · rename_i i hp
      rw [hp]
      simp only
      split at hx
      · rename_i o ho
        rw [ho]
        simp only
        obtain ⟨a, hx⟩ := and_t hx
        rw [a, cond_true]
        obtain ⟨a, a2⟩ := and_t a
        split at hx
        · rename_i hg
          obtain ⟨dec', hd', hs', hgo⟩ := goG_ex (f := rgOf l ds) hg hd hs
          refine hgo _ ?_
          rw [cond_true]
          refine opW_mono (xopW_t hC hx) fun v h' hk => ?_
          obtain ⟨x', _, hk⟩ := hk
          obtain ⟨k1, k2⟩ := and_t hk
          obtain ⟨l', e, hk⟩ := xput_t (ds := ds) k2
          have hd2 := decOk_put (v := v) (d := o.dst) hd'
          rw [e] at hd2 ⊢
          cases hb : isRead o.op && B.isSome with
          | true =>
            rw [cond_true]
            refine ⟨?_, ih _ _ _ hd2 (skDrop_ok hs') hk⟩
            rw [hb] at k1
            exact xrd_t k1
          | false =>
            rw [cond_false]
            exact ih _ _ _ hd2 (skDrop_ok hs') hk
        · rename_i hg
          obtain ⟨dec', hd', hs', hgo⟩ := goG_ex (f := rgOf l ds) hg hd hs
          refine hgo _ ?_
          rw [cond_false]
          obtain ⟨l', e, hk⟩ := xput_t (ds := ds) hx
          have hd2 := decOk_skip ho hd'
          rw [e] at hd2 ⊢
          exact ih _ _ _ hd2 (skAdd_ok hs') hk
        · cases hx
      · cases hx
    · rename_i hp
      rw [hp]
      simp only
      cases he : (Region.ready .any ops L).isEmpty with
      | true =>
        rw [he, cond_true] at hx
        rw [cond_true]
        exact ⟨l, x, rfl, rfl, hx⟩
      | false =>
        rw [he, cond_false] at hx
        rw [cond_false]
        refine allOf_t _ hx fun i hx => ?_
        split at hx
        · rename_i o ho
          rw [ho]
          simp only
          obtain ⟨a, hx⟩ := and_t hx
          rw [a, cond_true]
          split at hx
          · rename_i hg
            obtain ⟨dec', hd', hs', hgo⟩ := goG_ex (f := rgOf l ds) hg hd hs
            refine hgo _ ?_
            rw [cond_true]
            refine opW_mono (xopW_t hC hx) fun v h' hk => ?_
            obtain ⟨x', rfl, hk⟩ := hk
            have hd2 := decOk_put (v := v) (d := o.dst) hd'
            cases hn : sNeed P ops i o with
            | true =>
              simp only [hn, cond_true] at hk
              rw [cond_true]
              obtain ⟨k1, k2⟩ := and_t hk
              obtain ⟨l', e, hk⟩ := xput_t (ds := ds) k2
              rw [e] at hd2 ⊢
              exact ⟨xsame_t k1, ih _ _ _ hd2 (skDrop_ok hs') hk⟩
            | false =>
              simp only [hn, cond_false] at hk
              rw [cond_false]
              obtain ⟨l', e, hk⟩ := xput_t (ds := ds) hk
              rw [e] at hd2 ⊢
              exact ih _ _ _ hd2 (skDrop_ok hs') hk
          · rename_i hg
            obtain ⟨dec', hd', hs', hgo⟩ := goG_ex (f := rgOf l ds) hg hd hs
            refine hgo _ ?_
            rw [cond_false]
            obtain ⟨k1, k2⟩ := and_t hx
            have k1 : (sNeed P ops i o && !sok) = false := by
              cases hs : sNeed P ops i o && !sok with
              | false => rfl
              | true => rw [hs] at k1; cases k1
            rw [k1, cond_false]
            obtain ⟨l', e, hk⟩ := xput_t (ds := ds) k2
            have hd2 := decOk_skip ho hd'
            rw [e] at hd2 ⊢
            exact ih _ _ _ hd2 (skAdd_ok hs') hk
          · cases hx
        · cases hx
theorem anyW_rd {o : Oper} {R : List Nat} {r : Nat → Value} {A : List Nat → Prop} (h : ∃ B, (∀ b ∈ (readOf o.op r).toList ++ R, b ∈ B) ∧ A B) : ∃ B, (∀ b ∈ R, b ∈ B) ∧ RdOk (some B) (readOf o.op r) ∧ A B := by
  obtain ⟨B, h1, h2⟩ := h
  refine ⟨B, fun b hb => h1 b (by simp [hb]), ?_, h2⟩
  unfold RdOk
  cases hr : readOf o.op r with
  | none => trivial
  | some b => exact h1 b (by simp [hr])
theorem xpre_t (hC : CSound P J C) : ∀ (n : Nat) (L : Array Bool) (R : List Nat) (dec : Dec) {sk : List Nat} {l : T Value} {x : XH} {K : LB}, decOk ops dec (rgOf l ds) → skOk sk dec → xpre P C N ops n L R l x sk K = true →
    ∃ B, (∀ b ∈ R, b ∈ B) ∧ anyW P (Good P J) N ops (some B) (hOf x) n L true dec (rgOf l ds) (hOf x) (LP ds K) := by
  intro n
  induction n with
  | zero =>
    intro L R dec sk l x K hd hs hx
    exact ⟨R, fun b hb => hb, xany_t hC 0 L true dec hd hs hx⟩
  | succ n ih =>
    intro L R dec sk l x K hd hs hx
    unfold xpre at hx
    split at hx
    · rename_i i hp
      split at hx
      · rename_i o ho
        obtain ⟨a, hx⟩ := and_t hx
        have hfr : isFree P o = true := by
          have := List.find?_some hp
          rw [ho] at this
          simp only [Bool.and_eq_true] at this
          exact this.1
        split at hx
        · rename_i hg
          have hgd := xgd_gd hg
          obtain ⟨v, hv, hrep⟩ := opG_free (C := Good P J) (ops := ops) (r := gt l) hfr (by unfold opG; rw [hgd]; exact xopW_t hC hx)
          obtain ⟨x', hxx, hv⟩ := hv
          obtain ⟨l', e, hk⟩ := xput_t (ds := ds) hv
          obtain ⟨dec', hd', hs', hgo⟩ := goG_ex (f := rgOf l ds) hg hd hs
          have hd2 := decOk_put (v := v) (d := o.dst) hd'
          rw [e] at hd2
          obtain ⟨B, b1, b2⟩ := ih (L.setIfInBounds i true) ((readOf o.op (gt l)).toList ++ R) _ hd2 (skDrop_ok hs') hk
          obtain ⟨B, c1, c2, c3⟩ := anyW_rd (A := fun B => anyW P (Good P J) N ops (some B) (hOf x) n (L.setIfInBounds i true) true (forget ops o.dst dec') (rgOf l' ds) (hOf x) (LP ds K)) ⟨B, b1, b2⟩
          refine ⟨B, c1, ?_⟩
          unfold anyW
          rw [hp]
          simp only [ho]
          rw [a]
          simp only [Bool.or_true, Bool.and_true, cond_true]
          refine hgo _ ?_
          simp only [cond_true]
          have := hrep (hOf x) (fun v _ => bif isRead o.op && (some B).isSome then RdOk (some B) (readOf o.op (gt l)) ∧ anyW P (Good P J) N ops (some B) (hOf x) n (L.setIfInBounds i true) true (forget ops o.dst dec') ((rgOf l ds).putO o.dst v) (hOf x) (LP ds K) else anyW P (Good P J) N ops (some B) (hOf x) n (L.setIfInBounds i true) true (forget ops o.dst dec') ((rgOf l ds).putO o.dst v) (hOf x) (LP ds K)) (fun _ _ => rfl) (by
            rw [e]
            cases isRead o.op with
            | true => exact ⟨c2, c3⟩
            | false => exact c3)
          unfold opG at this
          rw [hgd] at this
          exact this
        · rename_i hg
          obtain ⟨l', e, hk⟩ := xput_t (ds := ds) hx
          obtain ⟨dec', hd', hs', hgo⟩ := goG_ex (f := rgOf l ds) hg hd hs
          have hd2 := decOk_skip ho hd'
          rw [e] at hd2
          obtain ⟨B, b1, b2⟩ := ih (L.setIfInBounds i true) R _ hd2 (skAdd_ok hs') hk
          refine ⟨B, b1, ?_⟩
          unfold anyW
          rw [hp]
          simp only [ho]
          rw [a]
          simp only [Bool.or_true, Bool.and_true, cond_true]
          refine hgo _ ?_
          simp only [cond_false]
          rw [e]
          exact b2
        · cases hx
      · cases hx
    · exact ⟨R, fun b hb => hb, xany_t hC (n + 1) L true dec hd hs hx⟩
theorem xdraw_t (hC : CSound P J C) {l : T Value} {x : XH} {K : LB} (hx : xdraw P C N ops l x K = true) : drawW P (Good P J) N ops (rgOf l ds) (hOf x) (LP ds K) := by
  unfold xdraw at hx
  unfold drawW
  have h0 : skOk [] [] := fun j hj => by cases hj
  cases hs : still P ops with
  | true =>
    rw [hs, cond_true] at hx
    rw [cond_true]
    exact xany_t hC _ _ _ _ (fun j b e => by cases e) h0 hx
  | false =>
    rw [hs, cond_false] at hx
    rw [cond_false]
    obtain ⟨B, _, hB⟩ := xpre_t (ds := ds) hC _ _ _ [] (fun j b e => by cases e) h0 hx
    exact ⟨B, hB⟩
end
abbrev QB := Exit → T Value → List Nat → XH → Bool
noncomputable def xjump (pend : Option Code) (Q : QB) (l : T Value) (ds : List Nat) (h : XH) : Bool :=
  match pend with
  | none => Q .normal l ds h
  | some .ret => Q .ret l ds h
  | some (.exit id) => Q (.exit id) l ds h
  | _ => false
noncomputable def seqQ (Q : QB) (k : T Value → List Nat → XH → Bool) : QB := fun e l ds h =>
  match e with
  | .normal => k l ds h
  | e => Q e l ds h
noncomputable def blkQ (id : Nat) (Q : QB) : QB := fun e l ds h =>
  match e with
  | .exit i => bif i == id then Q .normal l ds h else Q (.exit i) l ds h
  | e => Q e l ds h
noncomputable def xcnd (v : Value) (a b : Bool) : Bool :=
  match v with
  | .bool true => a
  | .bool false => b
  | _ => false
noncomputable def xrange (P : Program) (C : CB) (N fn : Nat) (v : Value) (params : Array Tmp) (assign body : Code) (l : T Value) (ds : List Nat) (x : XH) (Q : QB) : Bool :=
  match v with
  | .func (.func g) ⟨first⟩ ⟨cap⟩ => (Nat.blt fn 1000000 && Nat.blt g P.funcs.size) && hpush x .deferred fun h => hpush h (.loop .ready none fn (gt l) N params assign body x.n) fun y =>
      C g (first ++ [.func (.yield (x.n + 1)) ⟨[]⟩ ⟨[]⟩] ++ cap) y fun _ h' => hg h' (x.n + 1) fun o =>
        match o with
        | .loop st pend _ _ _ _ _ _ _ => !(st == .busy) && hset h' (x.n + 1) .dead fun h' => xjump pend Q l (x.n :: ds) h'
        | _ => false
  | _ => false
def ordF (P : Program) (ops : Array Oper) : Nat → Array Bool → List Nat
  | 0, _ => []
  | n + 1, L => match pickN P ops L with
    | some i => i :: ordF P ops n (L.setIfInBounds i true)
    | none => match Region.ready .any ops L with
      | [] => []
      | i :: _ => i :: ordF P ops n (L.setIfInBounds i true)
def multi (P : Program) (ops : Array Oper) : Nat → Array Bool → Bool
  | 0, _ => false
  | n + 1, L => match pickN P ops L with
    | some i => multi P ops n (L.setIfInBounds i true)
    | none => match Region.ready .any ops L with
      | [] => false
      | [i] => multi P ops n (L.setIfInBounds i true)
      | _ => true
def blkV : Value → Option Nat
  | .pointer (some a) => some a.block
  | .slice (some a) _ _ => some a.block
  | .map (some b) => some b
  | _ => none
def sg : List (Nat × Nat) → Nat → Nat
  | [], b => b
  | (a, c) :: l, b => bif Nat.beq a b then c else sg l b
def swp (l : List (Nat × Nat)) : List (Nat × Nat) := l.map fun p => (p.2, p.1)
def addP (n0 : Nat) (a b : Value) (acc : List (Nat × Nat)) (k : List (Nat × Nat) → Bool) : Bool :=
  match blkV a, blkV b with
  | some x, some y => bif Nat.ble n0 x && !(acc.any fun p => Nat.beq p.1 x) then fN x fun x => fN y fun y => k ((x, y) :: acc) else k acc
  | _, _ => k acc
noncomputable def prs (n0 : Nat) : T Value → T Value → List (Nat × Nat) → (List (Nat × Nat) → Bool) → Bool
  | .node a l r, .node b l' r', acc, k => addP n0 a b acc fun acc => prs n0 l l' acc fun acc => prs n0 r r' acc k
  | _, _, acc, k => k acc
noncomputable def simT (σ : Nat → Nat) : T Value → T Value → Bool
  | .nil, .nil => true
  | .node a l r, .node b l' r' => simV σ a b && simT σ l l' && simT σ r r'
  | _, _ => false
def isDead : AObj → Bool
  | .dead => true
  | _ => false
noncomputable def xsim (n0 : Nat) (l1 : T Value) (x1 : XH) (l2 : T Value) (x2 : XH) : Bool :=
  prs n0 l1 l2 [] fun s => (s.all fun p => Nat.ble n0 p.1) && simT (sg s) l1 l2 &&
    (List.range x1.n).all fun i => (Nat.beq (sg (swp s) (sg s i)) i) && ((isDead (tget .dead x1.t i)) || hg x2 (sg s i) fun o => simO (sg s) (tget .dead x1.t i) o)
noncomputable def xjoin (P : Program) (C : CB) (N : Nat) (ops : Array Oper) (l : T Value) (x : XH) (k : T Value → XH → Bool) : Bool :=
  xops P C N ops (ordF P ops ops.size (Array.replicate ops.size false)) l x [] fun l1 x1 => xdraw P C N ops l x (fun l2 x2 => xsim x.n l1 x1 l2 x2) && k l1 x1
def joinOf (P : Program) : Code → Option (Array Oper)
  | .region _ ops true => bif multi P ops ops.size (Array.replicate ops.size false) then some ops else none
  | _ => none
noncomputable def xseq (P : Program) (C : CB) (N : Nat) (a : Code) (ra rb : T Value → List Nat → XH → QB → Bool) (l : T Value) (ds : List Nat) (h : XH) (Q : QB) : Bool :=
  match joinOf P a with
  | some ops => xjoin P C N ops l h fun l h => rb l ds h Q
  | none => ra l ds h (seqQ Q fun l ds h => rb l ds h Q)
noncomputable def xC (P : Program) (C : CB) (N fn : Nat) (lp : Code → T Value → List Nat → XH → QB → Bool) (c : Code) : T Value → List Nat → XH → QB → Bool :=
  Code.rec (motive := fun _ => T Value → List Nat → XH → QB → Bool)
    (fun l ds h Q => Q .normal l ds h)
    (fun _ ops draw l ds h Q => bif draw then xdraw P C N ops l h fun l h => Q .normal l ds h else xops P C N ops (List.range ops.size) l h [] fun l h => Q .normal l ds h)
    (fun a _ iha ihb l ds h Q => xseq P C N a iha ihb l ds h Q)
    (fun c _ _ iha ihb l ds h Q => xcnd (ev (gt l) c) (iha l ds h Q) (ihb l ds h Q))
    (fun id _ ih l ds h Q => ih l ds h (blkQ id Q))
    (fun b _ l ds h Q => lp b l ds h Q)
    (fun fop params assign body _ _ l ds h Q => xrange P C N fn (ev (gt l) fop) params assign body l ds h Q)
    (fun id l ds h Q => Q (.exit id) l ds h)
    (fun _ ih l ds h Q => ih l ds h Q)
    (fun _ l ds h Q => Q .normal l ds h)
    (fun _ _ _ _ _ => false)
    (fun l ds h Q => Q .ret l ds h)
    (fun _ _ _ _ _ => false) c
noncomputable def xtake : List Nat → XH → (XH → Bool) → Bool
  | [], h, K => K h
  | d :: ds, h, K => hg h d fun o => match o with
    | .deferred => hset h d .dead fun h => xtake ds h K
    | _ => false
def isU : Value → Bool
  | .tuple ⟨[.tuple ⟨[]⟩]⟩ => true
  | _ => false
noncomputable def xres (P : Program) : List ResultVar → (Nat → Value) → XH → (List Value → Bool) → Bool
  | [], _, _, K => K []
  | .tmp t :: rs, r, h, K => fV (r t) fun v => !isU v && xres P rs r h fun vs => K (v :: vs)
  | .cell a t :: rs, r, h, K => match tk P t with
    | some (g, s) => xLoad g s (r a) h fun v => xres P rs r h fun vs => K (v :: vs)
    | none => false
noncomputable def xputs : T Value → List Nat → List Value → (T Value → Bool) → Bool
  | l, t :: ts, v :: vs, K => tset unk 9 l t v fun l => xputs l ts vs K
  | l, _, _, K => K l
noncomputable def xroundC (l : Nat) (K : KB) (e : Exit) (h : XH) (o : AObj) : Bool :=
  match o with
  | .loop _ _ fn r size params assign body dfr =>
    match e with
    | .normal => hset h l (.loop .ready none fn r size params assign body dfr) fun h => K (.bool true) h
    | .exit id => hset h l (.loop .done (some (.exit id)) fn r size params assign body dfr) fun h => K (.bool false) h
    | .ret => hset h l (.loop .done (some .ret) fn r size params assign body dfr) fun h => K (.bool false) h
    | _ => false
  | _ => false
noncomputable def xround (l : Nat) (K : KB) : QB := fun e _ _ h => hg h l (xroundC l K e h)
noncomputable def xret (P : Program) (rs : List ResultVar) (K : KB) : QB := fun e l ds h =>
  match e with
  | .normal | .ret => xtake ds h fun h => xres P rs (gt l) h fun vs => K (pack vs) h
  | _ => false
noncomputable def regT (r : Nat → Value) : Nat → (T Value → Bool) → Bool
  | 0, k => k .nil
  | n + 1, k => regT r n fun l => fV (r n) fun v => tset unk 9 l n v k
noncomputable def xenter (P : Program) (C : CB) (lp : Nat → Nat → Code → T Value → List Nat → XH → QB → Bool) (g : FuncId) (args : List Value) (h : XH) (K : KB) (fn : Func) : Bool :=
  match fn.body with
  | some c => (Nat.ble args.length fn.ntmps && !(fn.name == "runtime.NumGoroutine")) && xputs .nil (List.range args.length) args fun l =>
    xC P C fn.ntmps g (lp fn.ntmps g) c l [] h (xret P fn.results.toList K)
  | none => false
noncomputable def xinto (P : Program) (C : CB) (lp : Nat → Nat → Code → T Value → List Nat → XH → QB → Bool) (l : Nat) (args : List Value) (h : XH) (K : KB) (o : AObj) : Bool :=
  match o with
  | .loop .ready _ fn r size params assign body _ => (params.size == args.length && params.toList.all fun t => Nat.blt t size) && regT r size fun t => xputs t params.toList args fun t =>
    xC P C size (fn + 1000000) (lp size (fn + 1000000)) assign t [] h fun e t ds h =>
      match e, ds with
      | .normal, [] => hg h l fun o => match o with
        | .loop .ready pend fn' r' size' params' assign' body' dfr' => hset h l (.loop .busy pend fn' r' size' params' assign' body' dfr') fun h =>
          xC P C size (fn + 1000000) (lp size (fn + 1000000)) body t [] h (xround l K)
        | _ => false
      | _, _ => false
  | _ => false
mutual
/-- A call. -/
noncomputable def xcall (P : Program) : Nat → CB
  | 0, _, _, _, _ => false
  | n + 1, g, args, h, K =>
    match P.funcs[g]? with
    | some fn => xenter P (xcall P n) (xloop P n) g args h K fn
    | none => Nat.ble P.funcs.size g && hg h (g - P.funcs.size) (xinto P (xcall P n) (xloop P n) (g - P.funcs.size) args h K)
/-- A loop. -/
noncomputable def xloop (P : Program) : Nat → Nat → Nat → Code → T Value → List Nat → XH → QB → Bool
  | 0, _, _, _, _, _, _, _ => false
  | n + 1, N, fn, b, l, ds, h, Q => xC P (xcall P n) N fn (xloop P n N fn) b l ds h (seqQ Q fun l ds h => xloop P n N fn b l ds h Q)
end
def JF : JT := fun _ _ _ => False
theorem closedF (P : Program) (main : Bool) : Closed P main JF where
  rely := fun h _ => h
  step := fun _ h => by
    obtain ⟨_, _, _, _, _, _, h⟩ := h _ (RelyW.refl _ _)
    exact h
section
variable {P : Program} {main : Bool} {J : JT} {C : CB} {N n0 : Nat} {ds : List Nat} {fn : FuncId} {ops : Array Oper}
def QP (Q : QB) : QT := fun e f h => ∃ l ds x, f = rgOf l ds ∧ h = hOf x ∧ Q e l ds x = true
theorem xjump_t {pend : Option Code} {Q : QB} {l : T Value} {ds : List Nat} {x : XH} (hx : xjump pend Q l ds x = true) : jumpQ pend (QP Q) ⟨gt l, ds⟩ (hOf x) := by
  unfold xjump at hx
  unfold jumpQ
  split at hx
  · exact ⟨l, ds, x, rfl, rfl, hx⟩
  · exact ⟨l, ds, x, rfl, rfl, hx⟩
  · exact ⟨l, ds, x, rfl, rfl, hx⟩
  · cases hx
def LSound (J : JT) (N n0 : Nat) (fn : FuncId) (lp : Code → T Value → List Nat → XH → QB → Bool) : Prop := ∀ b l ds x Q, lp b l ds x Q = true → Sem J N n0 fn (.loop b) (rgOf l ds) (hOf x) (QP Q)
theorem first_run (hC : CSound P JF C) {todo : List Nat} {l : T Value} {x : XH} {K : LB} (hx : xops P C N ops todo l x [] K = true) {ρ : Env} {FC : Frm} {w : World} {ft : Foot} {a : Act}
    (A : ActRel (hOf x).length ρ N (rgOf l ds) a) (H : HRel ρ (hOf x) FC w ft) : ∃ l1 x1, K l1 x1 = true ∧ heapOk (hOf x1) ∧ (∀ t, gt l1 t = unk ∨ VOk (hOf x1).length (gt l1 t)) ∧ (hOf x).length ≤ (hOf x1).length := by
  have hs := SemOps_of (J := JF) (N := N) (n0 := (hOf x).length) (fn := 0) (Q := fun e f h => e = .normal ∧ LP ds K f h) (closedF P true) todo (dec := []) (fun j b e => by cases e) (by simpa using xops_t (ds := ds) hC todo (fun j b e => by cases e) (fun j hj => by cases hj) hx)
  refine Classical.byContradiction fun hn => ?_
  refine hs ⟨0, .normal, none⟩ a [] [] (fun _ _ _ _ => False) ρ FC w ft rfl (by simp) (fun _ _ _ _ _ z _ => z.elim) A H (Nat.le_refl _) ?_
  intro e f' h' ρ' w' ft' a' q A' H' hu hl
  obtain ⟨rfl, l1, x1, rfl, rfl, hk⟩ := q
  exact hn ⟨l1, x1, hk, H'.ok, fun t => (A'.regs t).imp id fun z => z.1, hl⟩
theorem simT_t {σ : Nat → Nat} : ∀ {l1 l2 : T Value}, simT σ l1 l2 = true → ∀ t, gt l2 t = sub σ (gt l1 t)
  | .nil, .nil, _, t => by simp [gt, tget_nil, sub_undef]
  | .node a l r, .node b l' r', hx, t => by
    unfold simT at hx
    obtain ⟨x, y⟩ := and_t hx
    obtain ⟨x, z⟩ := and_t x
    cases t with
    | zero => exact simV_t x
    | succ t =>
      unfold gt
      rw [tget_node, tget_node]
      split
      · exact simT_t z _
      · exact simT_t y _
  | .nil, .node b l' r', hx, t => by cases hx
  | .node a l r, .nil, hx, t => by cases hx
theorem addP_ex {n0 : Nat} {a b : Value} {acc : List (Nat × Nat)} {k : List (Nat × Nat) → Bool} (hx : addP n0 a b acc k = true) : ∃ s, k s = true := by
  unfold addP at hx
  split at hx
  · rename_i x y _ _
    cases hc : (Nat.ble n0 x && !(acc.any fun p => Nat.beq p.1 x)) with
    | true =>
      rw [hc, cond_true, fN_eq, fN_eq] at hx
      exact ⟨_, hx⟩
    | false =>
      rw [hc, cond_false] at hx
      exact ⟨_, hx⟩
  · exact ⟨_, hx⟩
theorem prs_ex {n0 : Nat} : ∀ (l1 l2 : T Value) {acc : List (Nat × Nat)} {k : List (Nat × Nat) → Bool}, prs n0 l1 l2 acc k = true → ∃ s, k s = true
  | .node a l r, .node b l' r', acc, k, hx => by
    unfold prs at hx
    obtain ⟨s1, hx⟩ := addP_ex hx
    obtain ⟨s2, hx⟩ := prs_ex l l' hx
    exact prs_ex r r' hx
  | .nil, l2, acc, k, hx => by
    unfold prs at hx
    exact ⟨_, hx⟩
  | .node a l r, .nil, acc, k, hx => by
    unfold prs at hx
    exact ⟨_, hx⟩
theorem sg_same {n : Nat} : ∀ {s : List (Nat × Nat)}, (s.all fun p => Nat.ble n p.1) = true → Same n (sg s)
  | [], _, b, _ => rfl
  | (a, c) :: l, hx, b, hb => by
    simp only [List.all_cons, Bool.and_eq_true] at hx
    have := ble_t hx.1
    unfold sg
    have hne : Nat.beq a b = false := by
      cases h : Nat.beq a b with
      | false => rfl
      | true => have := Nat.eq_of_beq_eq_true h; omega
    rw [hne, cond_false]
    exact sg_same hx.2 b hb
theorem xsim_t {n0 n1 : Nat} {l1 l2 : T Value} {x1 x2 : XH} (hx : xsim n1 l1 x1 l2 x2 = true) (ok : heapOk (hOf x1)) (hr : ∀ t, gt l1 t = unk ∨ VOk (hOf x1).length (gt l1 t)) (hn : n0 ≤ n1) (hl : n1 ≤ (hOf x1).length) (hd : ∀ d ∈ ds, d < n1) :
    ∃ σ, GCR n0 σ (rgOf l2 ds) (hOf x2) (rgOf l1 ds) (hOf x1) := by
  unfold xsim at hx
  obtain ⟨s, hx⟩ := prs_ex l1 l2 hx
  obtain ⟨a, b⟩ := and_t hx
  obtain ⟨a1, a2⟩ := and_t a
  have hs := sg_same a1
  have hb : ∀ i, i < x1.n → sg (swp s) (sg s i) = i ∧ (isDead (tget .dead x1.t i) = true ∨ hg x2 (sg s i) (fun o => simO (sg s) (tget .dead x1.t i) o) = true) := by
    intro i hi
    have := List.all_eq_true.1 b i (List.mem_range.2 hi)
    obtain ⟨p, q⟩ := and_t this
    exact ⟨Nat.eq_of_beq_eq_true p, by simpa using q⟩
  have hat : ∀ {i : Nat} {o : AObj}, (hOf x1)[i]? = some o → i < x1.n ∧ o = tget .dead x1.t i := by
    intro i o hi
    have hlt := (List.getElem?_eq_some_iff.1 hi).1
    rw [hOf_len] at hlt
    refine ⟨hlt, ?_⟩
    unfold hOf at hi
    rw [List.getElem?_map, List.getElem?_range hlt] at hi
    simpa using hi.symm
  refine ⟨sg s, ⟨Nat.le_trans hn hl, fun b hb => hs b (Nat.lt_of_lt_of_le hb hn), fun i o hi => ?_, fun i j o o' hi hj _ _ e => ?_, ok⟩, fun t => ?_, ?_, fun b hb => Nat.lt_of_lt_of_le (hd b hb) hl⟩
  · obtain ⟨hlt, rfl⟩ := hat hi
    rcases (hb i hlt).2 with h | h
    · left
      unfold isDead at h
      split at h
      · assumption
      · cases h
    · obtain ⟨o, ho, h⟩ := hg_t h
      right
      rw [ho, (simO_t h).1]
  · have h1 := (hb i (hat hi).1).1
    have h2 := (hb j (hat hj).1).1
    rw [← h1, ← h2, e]
  · rcases hr t with h | h
    · exact .inl h
    · exact .inr ⟨simT_t a2 t, h⟩
  · show ds = ds.map (sg s)
    exact ((List.map_congr_left fun d hd' => hs d (hd d hd')).trans (List.map_id _)).symm
theorem joinOf_t {a : Code} {ops : Array Oper} (h : joinOf P a = some ops) : ∃ id, a = .region id ops true := by
  unfold joinOf at h
  split at h
  · rename_i id ops'
    cases hm : multi P ops' ops'.size (Array.replicate ops'.size false) with
    | true => rw [hm] at h; cases h; exact ⟨id, rfl⟩
    | false => rw [hm] at h; cases h
  · cases h
theorem xjoin_t (hJ : Closed P main J) (hm : P.follows .mixedOrders = true) (hC : CSound P J C) (hC0 : CSound P JF C) {id : Nat} {b : Code} {l : T Value} {x : XH} {k : T Value → XH → Bool} {Q : QT} (hx : xjoin P C N ops l x k = true)
    (hb : ∀ l x, k l x = true → Sem J N n0 fn b (rgOf l ds) (hOf x) Q) : Sem J N n0 fn (.seq (.region id ops true) b) (rgOf l ds) (hOf x) Q := by
  intro b' a' k' cs' L' ρ FC w ft g1 g2 g3 g4 g5 g6 gc
  unfold xjoin at hx
  obtain ⟨l1, x1, hk, ok, hr, hl⟩ := first_run (ds := ds) hC0 hx g4 g5
  obtain ⟨k1, k2⟩ := and_t hk
  have hs : Sem J N n0 fn (.seq (.region id ops true) b) (rgOf l ds) (hOf x) Q := by
    refine Sem_seq hJ ((Sem_region_draw hJ hm (Q := fun e f h => e = .normal ∧ LP ds (fun l2 x2 => xsim x.n l1 x1 l2 x2) f h) (by simpa using xdraw_t (ds := ds) hC k1)).mono ?_)
    rintro e f h ⟨rfl, l2, x2, rfl, rfl, hsim⟩
    rw [hOf_len] at hl g6
    obtain ⟨σ, hg⟩ := xsim_t (ds := ds) hsim ok hr g6 hl (fun d hd => by
      have := g4.ok d hd
      rw [hOf_len] at this
      exact this)
    exact Sem.gc hg (hb l1 x1 k2)
  exact hs b' a' k' cs' L' ρ FC w ft g1 g2 g3 g4 g5 g6 gc
theorem xseq_t (hJ : Closed P main J) (hm : P.follows .mixedOrders = true) (hC : CSound P J C) (hC0 : CSound P JF C) {a b : Code} {ra rb : T Value → List Nat → XH → QB → Bool}
    (ha : ∀ l ds x Q, ra l ds x Q = true → Sem J N n0 fn a (rgOf l ds) (hOf x) (QP Q)) (hb : ∀ l ds x Q, rb l ds x Q = true → Sem J N n0 fn b (rgOf l ds) (hOf x) (QP Q)) {l : T Value} {ds : List Nat} {x : XH} {Q : QB} (hx : xseq P C N a ra rb l ds x Q = true) :
    Sem J N n0 fn (.seq a b) (rgOf l ds) (hOf x) (QP Q) := by
  unfold xseq at hx
  split at hx
  · rename_i ops hj
    obtain ⟨id, rfl⟩ := joinOf_t hj
    exact xjoin_t hJ hm hC hC0 hx fun l x hk => hb l ds x Q hk
  · refine Sem_seq hJ ((ha l ds x _ hx).mono fun e f h q => ?_)
    obtain ⟨l', ds', x', rfl, rfl, hq⟩ := q
    cases e with
    | normal => exact hb _ _ _ _ hq
    | _ => exact ⟨l', ds', x', rfl, rfl, hq⟩
theorem xC_t (hJ : Closed P main J) (hm : P.follows .mixedOrders = true) (hC : CSound P J C) (hC0 : CSound P JF C) {lp : Code → T Value → List Nat → XH → QB → Bool} (hL : LSound J N n0 fn lp) : ∀ (c : Code) (l : T Value) (ds : List Nat) (x : XH) (Q : QB), xC P C N fn lp c l ds x Q = true → Sem J N n0 fn c (rgOf l ds) (hOf x) (QP Q)
  | .skip, l, ds, x, Q, hx => Sem_skip hJ ⟨l, ds, x, rfl, rfl, hx⟩
  | .label _, l, ds, x, Q, hx => Sem_label hJ ⟨l, ds, x, rfl, rfl, hx⟩
  | .ret, l, ds, x, Q, hx => Sem_ret ⟨l, ds, x, rfl, rfl, hx⟩
  | .exit id, l, ds, x, Q, hx => Sem_exit hJ ⟨l, ds, x, rfl, rfl, hx⟩
  | .seq a b, l, ds, x, Q, hx => xseq_t hJ hm hC hC0 (ra := xC P C N fn lp a) (rb := xC P C N fn lp b) (fun l ds x Q h => xC_t hJ hm hC hC0 hL a l ds x Q h) (fun l ds x Q h => xC_t hJ hm hC hC0 hL b l ds x Q h) hx
  | .cond c a b, l, ds, x, Q, hx => by
    change xcnd (ev (gt l) c) (xC P C N fn lp a l ds x Q) (xC P C N fn lp b l ds x Q) = true at hx
    unfold xcnd at hx
    split at hx
    · rename_i e
      exact Sem_cond hJ (t := true) e (by simpa using xC_t hJ hm hC hC0 hL a l ds x Q hx)
    · rename_i e
      exact Sem_cond hJ (t := false) e (by simpa using xC_t hJ hm hC hC0 hL b l ds x Q hx)
    · cases hx
  | .block id a, l, ds, x, Q, hx => by
    refine Sem_block hJ ((xC_t hJ hm hC hC0 hL a l ds x (blkQ id Q) hx).mono fun e f h q => ?_)
    obtain ⟨l', ds', x', rfl, rfl, hq⟩ := q
    cases e with
    | exit i =>
      unfold blkQ at hq
      simp only at hq
      unfold blockK
      simp only
      cases hi : i == id with
      | true => rw [hi, cond_true] at hq; exact ⟨l', ds', x', rfl, rfl, hq⟩
      | false => rw [hi, cond_false] at hq; exact ⟨l', ds', x', rfl, rfl, hq⟩
    | _ => exact ⟨l', ds', x', rfl, rfl, hq⟩
  | .scope a, l, ds, x, Q, hx => Sem_scope hJ (xC_t hJ hm hC hC0 hL a l ds x Q hx)
  | .region id ops draw, l, ds, x, Q, hx => by
    change (bif draw then xdraw P C N ops l x fun l x => Q .normal l ds x else xops P C N ops (List.range ops.size) l x [] fun l x => Q .normal l ds x) = true at hx
    cases draw with
    | true =>
      rw [cond_true] at hx
      refine (Sem_region_draw hJ hm (Q := fun e f h => e = .normal ∧ LP ds (fun l x => Q .normal l ds x) f h) ?_).mono ?_
      · simpa using xdraw_t (ds := ds) hC hx
      · rintro e f h ⟨rfl, l', x', rfl, rfl, hq⟩
        exact ⟨l', ds, x', rfl, rfl, hq⟩
    | false =>
      rw [cond_false] at hx
      refine (Sem_region_text hJ (Q := fun e f h => e = .normal ∧ LP ds (fun l x => Q .normal l ds x) f h) ?_).mono ?_
      · simpa using xops_t (ds := ds) hC (List.range ops.size) (dec := []) (fun j b e => by cases e) (fun j hj => by cases hj) hx
      · rintro e f h ⟨rfl, l', x', rfl, rfl, hq⟩
        exact ⟨l', ds, x', rfl, rfl, hq⟩
  | .loop b, l, ds, x, Q, hx => hL b l ds x Q hx
  | .rangeFunc fop params assign body, l, ds, x, Q, hx => by
    change xrange P C N fn (ev (gt l) fop) params assign body l ds x Q = true at hx
    unfold xrange at hx
    split at hx
    · rename_i g first cap e
      obtain ⟨a, hx⟩ := and_t hx
      obtain ⟨a1, a2⟩ := and_t a
      obtain ⟨y1, e1, hx⟩ := hpush_t hx
      obtain ⟨y2, e2, hx⟩ := hpush_t hx
      have hg := hC _ _ _ _ hx
      rw [← e2, ← e1, ← hOf_len x] at hg
      refine Sem_range hJ (blt_t a1) (f := rgOf l ds) e (blt_t a2) (hg.mono fun v h' hk => ?_)
      obtain ⟨x', rfl, hk⟩ := hk
      obtain ⟨o, ho, hk⟩ := hg_t hk
      split at hk
      · rename_i st pend fn' r size params' assign' body' dfr
        obtain ⟨k1, k2⟩ := and_t hk
        obtain ⟨y, ey, k2⟩ := hset_t k2
        refine ⟨st, pend, fn', r, size, params', assign', body', dfr, ho, fun e => ?_, ?_⟩
        · subst e
          cases k1
        · rw [ey]
          exact xjump_t k2
      · cases hk
    · cases hx
  | .goto _, l, ds, x, Q, hx => by cases hx
  | .refuse _, l, ds, x, Q, hx => by cases hx
theorem xtake_t : ∀ (ds : List Nat) {x : XH} {K : XH → Bool}, xtake ds x K = true → takeW ds (hOf x) (HP K)
  | [], x, K, hx => ⟨x, rfl, hx⟩
  | d :: ds, x, K, hx => by
    unfold xtake at hx
    obtain ⟨o, ho, hx⟩ := hg_t hx
    split at hx
    · obtain ⟨y, e, hx⟩ := hset_t hx
      refine ⟨ho, ?_⟩
      rw [e]
      exact xtake_t ds hx
    · cases hx
theorem takeW_mono : ∀ (ds : List Nat) {h : List AObj} {K K' : List AObj → Prop}, takeW ds h K → (∀ h, K h → K' h) → takeW ds h K'
  | [], h, K, K', hx, hk => hk _ hx
  | d :: ds, h, K, K', hx, hk => ⟨hx.1, takeW_mono ds hx.2 hk⟩
theorem resW_mono : ∀ (rs : List ResultVar) {r : Nat → Value} {h : List AObj} {K K' : List Value → Prop}, resW P rs r h K → (∀ vs, K vs → K' vs) → resW P rs r h K'
  | [], r, h, K, K', hx, hk => hk _ hx
  | .tmp t :: rs, r, h, K, K', hx, hk => ⟨hx.1, resW_mono rs hx.2 fun vs => hk _⟩
  | .cell a t :: rs, r, h, K, K', hx, hk => by
    unfold resW at hx ⊢
    split at hx
    · obtain ⟨v, k1, k2⟩ := pin_aLoad _ hx
      exact k2 (fun v => resW P rs r h fun vs => K' (v :: vs)) (resW_mono rs k1 fun vs => hk _)
    · exact hx.elim
theorem xres_t : ∀ (rs : List ResultVar) {r : Nat → Value} {x : XH} {K : List Value → Bool}, xres P rs r x K = true → resW P rs r (hOf x) fun vs => K vs = true
  | [], r, x, K, hx => hx
  | .tmp t :: rs, r, x, K, hx => by
    unfold xres at hx
    rw [fV_eq] at hx
    obtain ⟨a, b⟩ := and_t hx
    refine ⟨fun e => ?_, xres_t rs b⟩
    rw [e] at a
    cases a
  | .cell a t :: rs, r, x, K, hx => by
    unfold xres at hx
    unfold resW
    split at hx
    · rename_i e
      simp only [e]
      obtain ⟨v, k1, k2⟩ := pin_aLoad _ (xLoad_t hx)
      exact k2 (fun v => resW P rs r (hOf x) fun vs => K (v :: vs) = true) (xres_t rs k1)
    · cases hx
theorem xret_t {rs : List ResultVar} {K : KB} {e : Exit} {f : RG} {h : List AObj} (hq : QP (xret P rs K) e f h) : RetQ P rs n0 (KP K) e f h := by
  obtain ⟨l, ds, x, rfl, rfl, hq⟩ := hq
  have main : xtake ds x (fun h => xres P rs (gt l) h fun vs => K (pack vs) h) = true → takeW (rgOf l ds).ds (hOf x) fun h => resW P rs (rgOf l ds).r h fun vs => KP K (pack vs) h ∨ ∃ σ h' v, GC n0 σ h h' ∧ pack vs = sub σ v ∧ VOk h'.length v ∧ KP K v h' := by
    intro hq
    refine takeW_mono ds (xtake_t ds hq) fun h hk => ?_
    obtain ⟨y, rfl, hk⟩ := hk
    exact resW_mono rs (xres_t rs hk) fun vs hv => .inl ⟨y, rfl, hv⟩
  unfold xret at hq
  unfold RetQ
  split at hq
  · exact main hq
  · exact main hq
  · cases hq
theorem xputs_t : ∀ (ts : List Nat) (vs : List Value) {l : T Value} {K : T Value → Bool}, xputs l ts vs K = true → ∃ l', gt l' = putAll (gt l) ts vs ∧ K l' = true
  | [], vs, l, K, hx => by
    cases vs <;> exact ⟨l, rfl, hx⟩
  | t :: ts, [], l, K, hx => ⟨l, rfl, hx⟩
  | t :: ts, v :: vs, l, K, hx => by
    unfold xputs at hx
    obtain ⟨l1, h1, h2⟩ := tset_t _ hx
    obtain ⟨l', e1, e2⟩ := xputs_t ts vs h1
    refine ⟨l', ?_, e2⟩
    show gt l' = putAll (fun i => bif i == t then v else gt l i) ts vs
    rw [gt_set h2]
    exact e1
theorem xround_t {l n0 : Nat} {K : KB} {e : Exit} {f : RG} {h : List AObj} (hq : QP (xround l K) e f h) : roundQ l n0 (KP K) e f h := by
  obtain ⟨l', ds, x, rfl, rfl, hq⟩ := hq
  obtain ⟨o, ho, hq⟩ := hg_t hq
  unfold xroundC at hq
  split at hq
  · rename_i st pend fn r size params assign body dfr
    refine ⟨st, pend, fn, r, size, params, assign, body, dfr, ho, ?_⟩
    split at hq
    · exact .inl (hset_t hq)
    · exact .inl (hset_t hq)
    · exact .inl (hset_t hq)
    · cases hq
  · cases hq
theorem putAll_range : ∀ (args : List Value) (k : Nat) (r : Nat → Value) (t : Nat), putAll r (List.range' k args.length) args t = if k ≤ t ∧ t < k + args.length then args.getD (t - k) unk else r t
  | [], k, r, t => by
    rw [if_neg (by simp)]
    rfl
  | v :: args, k, r, t => by
    show putAll (fun i => bif i == k then v else r i) (List.range' (k + 1) args.length) args t = _
    rw [putAll_range args (k + 1)]
    simp only [List.length_cons]
    by_cases h1 : k + 1 ≤ t ∧ t < k + 1 + args.length
    · rw [if_pos h1, if_pos (by omega)]
      have : t - k = (t - (k + 1)) + 1 := by omega
      rw [this, List.getD_cons_succ]
    · rw [if_neg h1]
      by_cases e : t = k
      · subst e
        rw [if_pos (by omega)]
        simp
      · have : (t == k) = false := by simpa using e
        rw [this, if_neg (by omega)]
        rfl
theorem regT_t {r : Nat → Value} : ∀ (n : Nat) {k : T Value → Bool}, regT r n k = true → ∃ l, k l = true ∧ ∀ t, gt l t = if t < n then r t else unk
  | 0, k, hx => ⟨.nil, hx, fun t => by simp [gt, tget_nil]⟩
  | n + 1, k, hx => by
    unfold regT at hx
    obtain ⟨l, h1, h2⟩ := regT_t n hx
    rw [fV_eq] at h1
    obtain ⟨l', h3, h4⟩ := tset_t _ h1
    refine ⟨l', h3, fun t => ?_⟩
    show tget unk l' t = _
    rw [h4]
    by_cases e : t = n
    · subst e; simp
    · rw [if_neg e]
      show gt l t = _
      rw [h2]
      by_cases e2 : t < n
      · rw [if_pos e2, if_pos (by omega)]
      · rw [if_neg e2, if_neg (by omega)]
theorem Sem.less {h : List AObj} {c : Code} {f f' : RG} {Q : QT} (hr : ∀ t, f'.r t = unk ∨ f'.r t = f.r t) (hd : f'.ds = f.ds) (hs : Sem J N n0 fn c f' h Q) : Sem J N n0 fn c f h Q := by
  intro b a k cs L ρ FC w ft h1 h2 h3 h4 h5 h6 hc
  refine hs b a k cs L ρ FC w ft h1 h2 h3 ⟨fun t => ?_, h4.size, by rw [hd]; exact h4.defers, by rw [hd]; exact h4.ok⟩ h5 h6 hc
  rcases hr t with e | e
  · exact .inl e
  · rw [e]
    exact h4.regs t
theorem putAll_less : ∀ (ps : List Nat) (vs : List Value) {r r' : Nat → Value}, (∀ t, r' t = unk ∨ r' t = r t) → ∀ t, putAll r' ps vs t = unk ∨ putAll r' ps vs t = putAll r ps vs t
  | [], vs, r, r', h, t => by cases vs <;> exact h t
  | p :: ps, [], r, r', h, t => h t
  | p :: ps, v :: vs, r, r', h, t => by
    refine putAll_less ps vs (fun x => ?_) t
    by_cases e : x = p
    · have : (x == p) = true := by simpa using e
      simp [this]
    · have : (x == p) = false := by simpa using e
      simpa [this] using h x
def SemL (J : JT) (N n0 : Nat) (fn : FuncId) (c : Code) (f : RG) (h : List AObj) (Q : QT) : Prop :=
  ∀ (b : FB) (a : Act) (k : List Item) (cs : List Frame) (L : Option Code → Act → World → Foot → Prop) (ρ : Env) (FC : Frm) (w : World) (ft : Foot), b.tag = fn → b.kind ≠ .early → LeaveOk J b cs L →
    ActRel h.length ρ N f a → HRel ρ h FC w ft → n0 ≤ h.length → Cont J N n0 b k cs L ρ FC Q → J (G (b.at a (.code c :: .inLoop c :: k)) cs) w ft
theorem SemL_step {h : List AObj} (hJ : Closed P main J) {c : Code} {f : RG} {Q : QT} (hx : Sem J N n0 fn c f h (thenK (fun f h => SemL J N n0 fn c f h Q) Q)) : SemL J N n0 fn c f h Q := by
  intro b a k cs L ρ FC w ft h1 h2 h3 h4 h5 h6 hc
  refine hx b a (.inLoop c :: k) cs L ρ FC w ft h1 h2 h3 h4 h5 h6 fun e f' h' ρ' w' ft' a' q g1 g2 g3 g4 => ?_
  cases e with
  | normal =>
    refine hJ.ctrl rfl rfl (g' := G (b.at a' (.code c :: .inLoop c :: k)) cs) (fun w => by simp [G, stepG, stepG.exec, FB.at]) ?_
    exact q b a' k cs L ρ' FC w' ft' h1 h2 h3 g1 g2 g4 fun e f3 h3' ρ3 w3 ft3 a3 q r1 r2 r3 r4 => hc e f3 h3' ρ3 w3 ft3 a3 q r1 r2 (Env.upto_trans g3 r3) r4
  | exit id => exact AfterJ.push (fun _ => rfl) (by simp) (hc _ _ _ _ _ _ _ q g1 g2 g3 g4)
  | ret => exact AfterJ.push (fun _ => rfl) (by simp) (hc _ _ _ _ _ _ _ q g1 g2 g3 g4)
  | goto l => exact hc _ _ _ _ _ _ _ q g1 g2 g3 g4
  | panic l => exact hc _ _ _ _ _ _ _ q g1 g2 g3 g4
  | outgrown => exact hc _ _ _ _ _ _ _ q g1 g2 g3 g4
theorem Sem_of_SemL {h : List AObj} (hJ : Closed P main J) {c : Code} {f : RG} {Q : QT} (hx : SemL J N n0 fn c f h Q) : Sem J N n0 fn (.loop c) f h Q := by
  intro b a k cs L ρ FC w ft h1 h2 h3 h4 h5 h6 hc
  refine hJ.ctrl rfl rfl (g' := G (b.at a (.code c :: .inLoop c :: k)) cs) (fun w => by simp [G, stepG, stepG.exec, FB.at]) ?_
  exact hx b a k cs L ρ FC w ft h1 h2 h3 h4 h5 h6 hc
def XS (P : Program) (n : Nat) : Prop := ∀ (main : Bool) (J : JT), Closed P main J → CSound P J (xcall P n) ∧ ∀ N n0 fn b l ds x Q, xloop P n N fn b l ds x Q = true → SemL J N n0 fn b (rgOf l ds) (hOf x) (QP Q)
theorem x_sound (hm : P.follows .mixedOrders = true) : ∀ n : Nat, XS P n
  | 0 => fun main J hJ => ⟨fun g args x K hx => (by unfold xcall at hx; cases hx), fun N n0 fn b l ds x Q hx => (by unfold xloop at hx; cases hx)⟩
  | n + 1 => by
    intro main J hJ
    obtain ⟨hC, hL⟩ := x_sound hm n main J hJ
    have hC0 := (x_sound hm n true JF (closedF P true)).1
    have hL' : ∀ N n0 fn, LSound J N n0 fn (xloop P n N fn) := fun N n0 fn b l ds x Q hx => Sem_of_SemL hJ (hL N n0 fn b l ds x Q hx)
    refine ⟨fun g args x K hx => ?_, fun N n0 fn b l ds x Q hx => ?_⟩
    · unfold xcall at hx
      split at hx
      · rename_i fn hf
        unfold xenter at hx
        split at hx
        · rename_i c hb
          obtain ⟨a, hx⟩ := and_t hx
          obtain ⟨a1, a2⟩ := and_t a
          have a1 := ble_t a1
          obtain ⟨l, e, hx⟩ := xputs_t _ _ hx
          refine good_of_sem hJ hf hb (by simpa using a2) a1 fun ok => ?_
          have := xC_t hJ hm hC hC0 (hL' fn.ntmps (hOf x).length g) c l [] x _ hx
          have hr : rgOf l [] = ⟨regs args, []⟩ := by
            unfold rgOf regs
            congr 1
            rw [e, List.range_eq_range']
            funext t
            rw [putAll_range]
            by_cases ht : t < args.length
            · rw [if_pos (by omega)]
              simp
            · rw [if_neg (by omega), List.getD_eq_getElem?_getD, List.getElem?_eq_none (by omega)]
              rfl
          rw [hr] at this
          exact this.mono fun e f h q => xret_t q
        · cases hx
      · obtain ⟨a, hx⟩ := and_t hx
        obtain ⟨o, ho, hx⟩ := hg_t hx
        unfold xinto at hx
        split at hx
        · rename_i pend fn r size params assign body dfr
          obtain ⟨a1, hx⟩ := and_t hx
          obtain ⟨a1, a2⟩ := and_t a1
          obtain ⟨l0, hx, e0⟩ := regT_t _ hx
          obtain ⟨l', e1, hx⟩ := xputs_t params.toList args hx
          have a1 : params.size = args.length := by simpa using a1
          have hyid : g = yid P (g - P.funcs.size) := (Nat.add_sub_cancel' (ble_t a)).symm
          rw [hyid]
          refine good_round hJ ho a1 (fun t ht => blt_t (List.all_eq_true.1 a2 t ht)) fun ok => ?_
          refine Sem.less (f' := rgOf l' []) (fun t => ?_) rfl ((xC_t hJ hm hC hC0 (hL' size (hOf x).length (fn + 1000000)) assign l' [] x _ hx).mono fun e f h1 q => ?_)
          · show gt l' t = unk ∨ gt l' t = putAll r params.toList args t
            rw [e1]
            refine putAll_less _ _ (fun x => ?_) t
            rw [e0]
            split
            · exact .inr rfl
            · exact .inl rfl
          · obtain ⟨l2, ds2, x2, rfl, rfl, hq⟩ := q
            simp only at hq
            split at hq
            · obtain ⟨o2, ho2, hq⟩ := hg_t hq
              split at hq
              · rename_i pend' fn' r' size' params' assign' body' dfr'
                obtain ⟨y, ey, hq⟩ := hset_t hq
                refine ⟨rfl, pend', fn', r', size', params', assign', body', dfr', ho2, ?_⟩
                rw [ey]
                exact (xC_t hJ hm hC hC0 (hL' size (hOf x).length (fn + 1000000)) body l2 [] y _ hq).mono fun e f h2 q => xround_t q
              · cases hq
            · cases hq
        · cases hx
    · unfold xloop at hx
      refine SemL_step hJ ((xC_t hJ hm hC hC0 (hL' N n0 fn) b l ds x _ hx).mono fun e f h q => ?_)
      obtain ⟨l', ds', x', rfl, rfl, hq⟩ := q
      cases e with
      | normal => exact hL N n0 fn b l' ds' x' Q hq
      | _ => exact ⟨l', ds', x', rfl, rfl, hq⟩
end
section
variable {P : Program} {main : Bool} {J : JT} {g : FuncId} {args : List Value} {h : List AObj} {K K' : Value → List AObj → Prop}
theorem good_frame (hg : Good P J g args [] K) (hlt : g < P.funcs.size) (ha : ∀ v ∈ args, VOk 0 v) (hk : ∀ v h', K v h' → VOk 0 v ∧ K' v h) : Good P J g args h K' := by
  obtain ⟨ho, hg⟩ := hg
  have hcall : callable P g = true := by
    rcases ho with ⟨_, e⟩ | ⟨e, _⟩
    · exact e
    · exact absurd hlt (Nat.not_lt.2 e)
  refine ⟨.inl ⟨hlt, hcall⟩, fun ρ FC w ft cs c cargs fr H hargs hl hent hc => ?_⟩
  have hfr : fr = Frame.enter P g ⟨cargs⟩ .normal := by
    rcases hent with ⟨_, e⟩ | ⟨e, _⟩
    · exact e
    · exact absurd hlt (Nat.not_lt.2 e)
  have ob : ∃ ob : Nat → Option Obj, (∀ b, ft.rd b → ob b = w.heap[b]?) ∧ (∀ b, ¬ ft.rd b → ob b = none) := by
    classical
    exact ⟨fun b => if ft.rd b then w.heap[b]? else none, fun b hb => if_pos hb, fun b hb => if_neg hb⟩
  obtain ⟨ob, ob1, ob2⟩ := ob
  have H0 : HRel ρ [] ⟨ob, ft.wr⟩ w ft := by
    refine ⟨fun b o hb => by simp at hb, fun b b' o o' hb => by simp at hb, fun b o hb => by simp at hb, fun b o hb => by simp at hb, H.lt, H.sub, fun b o hb => ?_, fun b hb => hb⟩
    by_cases hr : ft.rd b
    · refine ⟨?_, hr, fun a oa ha => by simp at ha⟩
      rw [← ob1 b hr]
      exact hb
    · have : ob b = some o := hb
      rw [ob2 b hr] at this
      cases this
  refine hg ρ ⟨ob, ft.wr⟩ w ft cs c cargs fr H0 (fun i => ?_) hl (.inl ⟨hlt, hfr⟩) fun v h' ρ' w' ft' cv hK H' hu hl' hv => ?_
  · rcases hargs i with e | ⟨_, e⟩
    · exact .inl e
    · by_cases hi : i < args.length
      · have : args.getD i unk ∈ args := by
          rw [List.getD_eq_getElem?_getD, List.getElem?_eq_getElem hi]
          exact List.getElem_mem hi
        exact .inr ⟨ha _ this, e⟩
      · left
        rw [List.getD_eq_getElem?_getD, List.getElem?_eq_none (by omega)]
        rfl
  · obtain ⟨hv0, hK'⟩ := hk v h' hK
    have kp : ∀ b, ft.rd b → w'.heap[b]? = w.heap[b]? ∧ ft'.rd b := by
      intro b hb
      have hlt' := H.lt b hb
      have : (⟨ob, ft.wr⟩ : Frm).ob b = some w.heap[b] := by
        show ob b = _
        rw [ob1 b hb, Array.getElem?_eq_getElem hlt']
      obtain ⟨a1, a2, _⟩ := H'.kept b _ this
      exact ⟨by rw [a1, Array.getElem?_eq_getElem hlt'], a2⟩
    refine hc v h ρ w' ft' cv hK' ⟨fun b o hb => ?_, H.inj, fun b o hb hl => (kp _ (H.rd b o hb hl)).2, fun b o hb hw => H'.keptW _ (H.wr b o hb hw), H'.lt, H'.sub, fun b o hb => ?_, fun b hb => H'.keptW _ (H.keptW b hb)⟩ (Env.upto_refl _ _) (Nat.le_refl _) ?_
    · cases hlv : o.live with
      | false => cases o <;> first | trivial | cases hlv
      | true =>
        rw [(kp _ (H.rd b o hb hlv)).1]
        exact H.obj b o hb
    · obtain ⟨a1, a2, a3⟩ := H.kept b o hb
      exact ⟨by rw [(kp b a2).1]; exact a1, (kp b a2).2, a3⟩
    · rcases hv with e | ⟨_, e⟩
      · exact .inl e
      · exact .inr ⟨VOk.mono (Nat.zero_le _) v hv0, by rw [e, ren0 v hv0, ren0 v hv0]⟩
end
section
variable {P : Program} {J : JT} {g : FuncId} {args : List Value} {h h0 : List AObj} {K K' : Value → List AObj → Prop} {σ : Nat → Nat}
structure Lies (σ : Nat → Nat) (h0 h : List AObj) : Prop where
  cell : ∀ (i : Nat) (o : AObj), h0[i]? = some o → ∃ c wr, o = .cells c false 0 ∧ LOk h0.length c ∧ h[σ i]? = some (.cells (c.map (sub σ)) wr 0)
  inj : ∀ i j, i < h0.length → j < h0.length → σ i = σ j → i = j
theorem good_in (hg : Good P J g args h0 K) (hlt : g < P.funcs.size) (L : Lies σ h0 h) (ha : ∀ v ∈ args, VOk h0.length v)
    (hk : ∀ v h', K v h' → (VOk 0 v ∧ K' v h) ∨ ∃ k c sz v1, h'[k]? = some (.cells c true sz) ∧ LOk 0 c ∧ v = sub (fun _ => k) v1 ∧ v ≠ unk ∧ VOk (h.length + 1) (sub (fun _ => h.length) v1) ∧ K' (sub (fun _ => h.length) v1) (h ++ [.cells c true sz])) :
    Good P J g (args.map (sub σ)) h K' := by
  obtain ⟨ho, hg⟩ := hg
  have hcall : callable P g = true := by
    rcases ho with ⟨_, e⟩ | ⟨e, _⟩
    · exact e
    · exact absurd hlt (Nat.not_lt.2 e)
  refine ⟨.inl ⟨hlt, hcall⟩, fun ρ FC w ft cs c cargs fr H hargs hl hent hc => ?_⟩
  have hfr : fr = Frame.enter P g ⟨cargs⟩ .normal := by
    rcases hent with ⟨_, e⟩ | ⟨e, _⟩
    · exact e
    · exact absurd hlt (Nat.not_lt.2 e)
  have ob : ∃ ob : Nat → Option Obj, (∀ b, ft.rd b → ob b = w.heap[b]?) ∧ (∀ b, ¬ ft.rd b → ob b = none) := by
    classical
    exact ⟨fun b => if ft.rd b then w.heap[b]? else none, fun b hb => if_pos hb, fun b hb => if_neg hb⟩
  obtain ⟨ob, ob1, ob2⟩ := ob
  have lt0 : ∀ {b : Nat} {o : AObj}, h0[b]? = some o → b < h0.length := fun hb => (List.getElem?_eq_some_iff.1 hb).1
  have H0 : HRel (ρ.comp σ) h0 ⟨ob, ft.wr⟩ w ft := by
    refine ⟨fun b o hb => ?_, fun b b' o o' hb hb' _ _ e => ?_, fun b o hb _ => ?_, fun b o hb hw => ?_, H.lt, H.sub, fun b o hb => ?_, fun b hb => hb⟩
    · obtain ⟨c, wr, rfl, ok, hs⟩ := L.cell b o hb
      have hr := H.obj _ _ hs
      have h2 : ORel h0.length (ρ.comp σ) b (.cells c wr 0) w.heap[ρ.blk (σ b)]? := ORel.sub (o := .cells c wr 0) hr ok
      show ORel h0.length (ρ.comp σ) b (.cells c false 0) w.heap[ρ.blk (σ b)]?
      match w.heap[ρ.blk (σ b)]?, h2 with
      | some (.cells c' ty fr), ⟨h1, h2, h3, h4⟩ => exact ⟨fun i v hv => (h1 i v hv).imp (fun u => ⟨u.1, rfl⟩) id, h2, h3, fun x => by cases x⟩
    · obtain ⟨c, wr, rfl, ok, hs⟩ := L.cell b o hb
      obtain ⟨c2, wr2, rfl, ok2, hs2⟩ := L.cell b' o' hb'
      exact L.inj b b' (lt0 hb) (lt0 hb') (H.inj _ _ _ _ hs hs2 rfl rfl e)
    · obtain ⟨c, wr, rfl, ok, hs⟩ := L.cell b o hb
      exact H.rd _ _ hs rfl
    · obtain ⟨c, wr, rfl, ok, hs⟩ := L.cell b o hb
      cases hw
    · by_cases hr : ft.rd b
      · refine ⟨?_, hr, fun a oa ha hw => ?_⟩
        · rw [← ob1 b hr]
          exact hb
        · obtain ⟨c, wr, rfl, ok, hs⟩ := L.cell a oa ha
          cases hw
      · have : ob b = some o := hb
        rw [ob2 b hr] at this
        cases this
  refine hg (ρ.comp σ) ⟨ob, ft.wr⟩ w ft cs c cargs fr H0 (fun i => ?_) (by rw [hl, List.length_map]) (.inl ⟨hlt, hfr⟩) fun v h' ρ' w' ft' cv hK H' hu hl' hv => ?_
  · have hi' := hargs i
    by_cases hi : i < args.length
    · have e1 : args.getD i unk = args[i] := by rw [List.getD_eq_getElem?_getD, List.getElem?_eq_getElem hi]; rfl
      have e2 : (args.map (sub σ)).getD i unk = sub σ args[i] := by rw [List.getD_eq_getElem?_getD, List.getElem?_map, List.getElem?_eq_getElem hi]; rfl
      rw [e1]
      rw [e2] at hi'
      rcases hi' with e | ⟨_, e⟩
      · exact .inl (sub_inv e)
      · exact .inr ⟨ha _ (List.getElem_mem hi), by rw [e, ren_sub]⟩
    · left
      rw [List.getD_eq_getElem?_getD, List.getElem?_eq_none (by omega)]
      rfl
  · have kp : ∀ b, ft.rd b → w'.heap[b]? = w.heap[b]? ∧ ft'.rd b := by
      intro b hb
      have hlt' := H.lt b hb
      have : (⟨ob, ft.wr⟩ : Frm).ob b = some w.heap[b] := by
        show ob b = _
        rw [ob1 b hb, Array.getElem?_eq_getElem hlt']
      obtain ⟨a1, a2, _⟩ := H'.kept b _ this
      exact ⟨by rw [a1, Array.getElem?_eq_getElem hlt'], a2⟩
    rcases hk v h' hK with ⟨hv0, hK'⟩ | ⟨k, c2, sz, v1, hk1, hk2, rfl, hk3, hk4, hK'⟩
    · refine hc v h ρ w' ft' cv hK' ⟨fun b o hb => ?_, H.inj, fun b o hb hl => (kp _ (H.rd b o hb hl)).2, fun b o hb hw => H'.keptW _ (H.wr b o hb hw), H'.lt, H'.sub, fun b o hb => ?_, fun b hb => H'.keptW _ (H.keptW b hb)⟩ (Env.upto_refl _ _) (Nat.le_refl _) ?_
      · cases hlv : o.live with
        | false => cases o <;> first | trivial | cases hlv
        | true =>
          rw [(kp _ (H.rd b o hb hlv)).1]
          exact H.obj b o hb
      · obtain ⟨a1, a2, a3⟩ := H.kept b o hb
        exact ⟨by rw [(kp b a2).1]; exact a1, (kp b a2).2, a3⟩
      · rcases hv with e | ⟨_, e⟩
        · exact .inl e
        · exact .inr ⟨VOk.mono (Nat.zero_le _) v hv0, by rw [e, ren0 v hv0, ren0 v hv0]⟩
    · obtain ⟨ρ2, hρ2⟩ : ∃ ρ2 : Env, ρ2 = ⟨fun b => if b = h.length then ρ'.blk k else ρ.blk b, fun b => if b = h.length then ρ'.cap k else ρ.cap b⟩ := ⟨_, rfl⟩
      have rn : ρ2.blk h.length = ρ'.blk k ∧ ρ2.cap h.length = ρ'.cap k := by subst hρ2; simp
      have ro : ∀ b, b < h.length → ρ2.blk b = ρ.blk b ∧ ρ2.cap b = ρ.cap b := fun b hb => by subst hρ2; simp [Nat.ne_of_lt hb]
      have hup : Env.upto h.length ρ ρ2 := ro
      have split : ∀ {b : Nat} {o : AObj}, (h ++ [AObj.cells c2 true sz])[b]? = some o → (b < h.length ∧ h[b]? = some o) ∨ (b = h.length ∧ o = .cells c2 true sz) := fun {b o} hb => by
        rcases Nat.lt_or_ge b h.length with x | x
        · rw [List.getElem?_append_left x] at hb
          exact .inl ⟨x, hb⟩
        · have hlt2 := (List.getElem?_eq_some_iff.1 hb).1
          simp at hlt2
          have : b = h.length := by omega
          subst this
          exact .inr ⟨rfl, by simpa using hb.symm⟩
      have nw : ∀ b, ft.rd b → ρ'.blk k ≠ b := fun b hb => by
        have hlt' := H.lt b hb
        have : (⟨ob, ft.wr⟩ : Frm).ob b = some w.heap[b] := by
          show ob b = _
          rw [ob1 b hb, Array.getElem?_eq_getElem hlt']
        exact (H'.kept b _ this).2.2 k _ hk1 rfl
      refine hc _ _ ρ2 w' ft' cv hK' ⟨fun b o hb => ?_, fun b b' o o' hb hb' l l' e => ?_, fun b o hb hl => ?_, fun b o hb hw => ?_, H'.lt, H'.sub, fun b o hb => ?_, fun b hb => H'.keptW _ (H.keptW b hb)⟩ hup (by simp) ?_
      · rcases split hb with ⟨x, hb⟩ | ⟨rfl, rfl⟩
        · cases hlv : o.live with
          | false => cases o <;> first | trivial | cases hlv
          | true =>
            have := (H.obj b o hb).congr hup (Nat.le_of_lt (by simp : h.length < (h ++ [AObj.cells c2 true sz]).length)) x
            rw [(ro b x).1, (kp _ (H.rd b o hb hlv)).1]
            exact this
        · have hr := H'.obj k _ hk1
          rw [rn.1]
          match w'.heap[ρ'.blk k]?, hr with
          | some (.cells c' ty fr), ⟨h1, h2, h3, h4⟩ =>
            refine ⟨fun i v hv => ?_, h2, fun hz => by rw [rn.2]; exact h3 hz, h4⟩
            have v0 : VOk 0 v := (LOk_iff _).1 hk2 v (List.mem_of_getElem? hv)
            rcases h1 i v hv with u | ⟨_, a2, a3⟩
            · exact .inl u
            · exact .inr ⟨VOk.mono (Nat.zero_le _) v v0, a2, by rw [a3, ren0 v v0, ren0 v v0]⟩
      · rcases split hb with ⟨x, hb⟩ | ⟨rfl, rfl⟩
        · rcases split hb' with ⟨x', hb'⟩ | ⟨rfl, rfl⟩
          · rw [(ro b x).1, (ro b' x').1] at e
            exact H.inj _ _ _ _ hb hb' l l' e
          · rw [(ro b x).1, rn.1] at e
            exact absurd e.symm (nw _ (H.rd b o hb l))
        · rcases split hb' with ⟨x', hb'⟩ | ⟨rfl, rfl⟩
          · rw [(ro b' x').1, rn.1] at e
            exact absurd e (nw _ (H.rd b' o' hb' l'))
          · rfl
      · rcases split hb with ⟨x, hb⟩ | ⟨rfl, rfl⟩
        · rw [(ro b x).1]
          exact (kp _ (H.rd b o hb hl)).2
        · rw [rn.1]
          exact H'.rd k _ hk1 rfl
      · rcases split hb with ⟨x, hb⟩ | ⟨rfl, rfl⟩
        · rw [(ro b x).1]
          exact H'.keptW _ (H.wr b o hb hw)
        · rw [rn.1]
          exact H'.wr k _ hk1 rfl
      · obtain ⟨a1, a2, a3⟩ := H.kept b o hb
        refine ⟨by rw [(kp b a2).1]; exact a1, (kp b a2).2, fun a oa ha hw => ?_⟩
        rcases split ha with ⟨x, ha⟩ | ⟨rfl, rfl⟩
        · rw [(ro a x).1]
          exact a3 a oa ha hw
        · rw [rn.1]
          exact nw b a2
      · rcases hv with e | ⟨_, e⟩
        · exact absurd e hk3
        · refine .inr ⟨by simpa using hk4, ?_⟩
          rw [e, ren_sub, ren_sub]
          congr 1
          show Env.mk (fun _ => ρ'.blk k) (fun _ => ρ'.cap k) = Env.mk (fun _ => ρ2.blk h.length) (fun _ => ρ2.cap h.length)
          rw [rn.1, rn.2]
noncomputable def isInts (l : List Int) (e : Int) : KB := fun v x =>
  match v with
  | .tuple ⟨[.slice (some ⟨k, 0, none⟩) n _, .int .i64 e']⟩ => (Nat.beq n l.length && decide (e' = e)) && hg x k fun o =>
    match o with
    | .cells c true _ => simL eqP c (l.map vint)
    | _ => false
  | _ => false
def isTwo (a b : Int) : KB := fun v _ =>
  match v with
  | .tuple ⟨[.int .i64 a', .int .i64 b']⟩ => decide (a' = a) && decide (b' = b)
  | _ => false
theorem isInts_t {l : List Int} {e : Int} {v : Value} {h' : List AObj} (hx : KP (isInts l e) v h') : ∃ k c sz, h'[k]? = some (.cells (l.map vint) true sz) ∧ v = .tuple ⟨[.slice (some ⟨k, 0, none⟩) l.length c, vint e]⟩ := by
  obtain ⟨x, rfl, hx⟩ := hx
  unfold isInts at hx
  split at hx
  · rename_i k n c e'
    obtain ⟨a, hy⟩ := and_t hx
    clear hx
    obtain ⟨a1, a2⟩ := and_t a
    have a1 := Nat.eq_of_beq_eq_true a1
    have a2 : e' = e := of_decide_eq_true a2
    subst a1 a2
    obtain ⟨o, ho, hz⟩ := hg_t hy
    clear hy
    split at hz
    · rename_i cs sz
      have := simL_t (g := id) (fun a b h => eqP_t h) hz
      rw [List.map_id] at this
      exact ⟨k, c, sz, by rw [this]; exact ho, rfl⟩
    · cases hz
  · cases hx
theorem isTwo_t {a b : Int} {v : Value} {h' : List AObj} (hx : KP (isTwo a b) v h') : v = .tuple ⟨[vint a, vint b]⟩ := by
  obtain ⟨x, rfl, hx⟩ := hx
  unfold isTwo at hx
  split at hx
  · obtain ⟨a1, a2⟩ := and_t hx
    have a1 := of_decide_eq_true a1
    have a2 := of_decide_eq_true a2
    subst a1 a2
    rfl
  · cases hx
theorem run_ints {l : List Int} {e : Int} (hg : Good P J g args h0 (KP (isInts l e))) (hlt : g < P.funcs.size) (L : Lies σ h0 h) (ha : ∀ v ∈ args, VOk h0.length v)
    (hk : ∀ c sz, K' (.tuple ⟨[.slice (some ⟨h.length, 0, none⟩) l.length c, vint e]⟩) (h ++ [.cells (l.map vint) true sz])) : Good P J g (args.map (sub σ)) h K' :=
  good_in hg hlt L ha fun v h' hx => by
    obtain ⟨k, c, sz, hk1, rfl⟩ := isInts_t hx
    refine .inr ⟨k, _, sz, .tuple ⟨[.slice (some ⟨0, 0, none⟩) l.length c, vint e]⟩, hk1, ?_, by simp [sub, subA, subL], by simp [unk], ?_, ?_⟩
    · rw [LOk_iff]
      intro v hv
      obtain ⟨x, _, rfl⟩ := List.mem_map.1 hv
      simp [VOk]
    · simp [sub, subA, subL, VOk, AOk, LOk, AddrOk]
    · simpa [sub, subA, subL] using hk c sz
theorem run_two {a b : Int} (hg : Good P J g args h0 (KP (isTwo a b))) (hlt : g < P.funcs.size) (L : Lies σ h0 h) (ha : ∀ v ∈ args, VOk h0.length v)
    (hk : K' (.tuple ⟨[vint a, vint b]⟩) h) : Good P J g (args.map (sub σ)) h K' :=
  good_in hg hlt L ha fun v h' hx => by
    cases isTwo_t hx
    exact .inl ⟨by simp [VOk, AOk, LOk], hk⟩
end
end Go.Proofs.Ytindillghipjjaa
namespace Go.Proofs.Ytindillghipjjaa
open Go.Conc Go.Proofs.Try
set_option maxRecDepth 100000
def exV (p : Nat) : Value := .agg ⟨troCells exTro (.slice (some ⟨p, 0, none⟩) 2 2)⟩
def exF : AObj := .cells [vint 4, vint 3, vint 5, vint 4] false 0
def exH1 : XH := ⟨1, .node exF .nil .nil⟩
def exH (l : List Int) : XH := ⟨2, .node exF (.node (.cells (l.map vint) false 0) .nil .nil) .nil⟩
theorem run37 : xcall prog 200 37 [exV 0, .slice (some ⟨1, 0, none⟩) 3 3, vint 4] (exH [0, 1, -1]) (isInts [5, 3, 6, 5] 0) = true := by kernel_rfl
theorem run38 : xcall prog 200 38 [exV 0, .slice (some ⟨1, 0, none⟩) 2 2] (exH [0, 1]) (isTwo 2 0) = true := by kernel_rfl
theorem run39 : xcall prog 200 39 [exV 0] exH1 (isInts [-1, 0, 1] 0) = true := by kernel_rfl
theorem run34 : xcall prog 200 34 [exTro.well.val, .agg ⟨[vint 12, vint 20, vint 1, vint 4, vint 3, vint 2]⟩, .agg ⟨[vint 3, vint 2, vint 2]⟩, vint 0, vint 3] ⟨0, .nil⟩ (isTwo 4 0) = true := by kernel_rfl
section
variable {main : Bool} {J : JT} {h : List AObj} {K : Value → List AObj → Prop} {p q : Nat}
theorem lies1 {wr : Bool} (hp : h[p]? = some (.cells (exTro.flocks.flatMap Dro.cells) wr 0)) : Lies (fun _ => p) (hOf exH1) h := by
  have e : hOf exH1 = [exF] := rfl
  rw [e]
  refine ⟨fun i o hi => ?_, fun i j hi hj _ => by simp at hi hj; omega⟩
  match i, hi with
  | 0, hi =>
    cases hi
    exact ⟨_, wr, rfl, by simp [LOk, VOk], hp⟩
theorem lies2 {l : List Int} {wr wr2 : Bool} (hp : h[p]? = some (.cells (exTro.flocks.flatMap Dro.cells) wr 0)) (hq : h[q]? = some (.cells (l.map vint) wr2 0)) (hne : p ≠ q) : Lies (fun i => if i = 0 then p else q) (hOf (exH l)) h := by
  have e : hOf (exH l) = [exF, .cells (l.map vint) false 0] := rfl
  have hs : ∀ v ∈ l.map vint, sub (fun i => if i = 0 then p else q) v = v := fun v hv => by
    obtain ⟨x, _, rfl⟩ := List.mem_map.1 hv
    simp [sub]
  rw [e]
  refine ⟨fun i o hi => ?_, fun i j hi hj he => ?_⟩
  · match i, hi with
    | 0, hi =>
      cases hi
      exact ⟨_, wr, rfl, by simp [LOk, VOk], hp⟩
    | 1, hi =>
      cases hi
      refine ⟨_, wr2, rfl, ints_ok _ _, ?_⟩
      rw [List.map_congr_left hs, List.map_id']
      exact hq
  · simp at hi hj
    have hi2 : i = 0 ∨ i = 1 := by omega
    have hj2 : j = 0 ∨ j = 1 := by omega
    rcases hi2 with rfl | rfl <;> rcases hj2 with rfl | rfl <;> simp at he ⊢ <;> omega
theorem ex37 (hJ : Closed prog main J) {wr wr2 : Bool} (hp : h[p]? = some (.cells (exTro.flocks.flatMap Dro.cells) wr 0)) (hq : h[q]? = some (.cells ([0, 1, -1].map vint) wr2 0)) (hne : p ≠ q)
    (hK : ∀ H lv, SameX [] h H → Sli H lv 1 4 [vint 5, vint 3, vint 6, vint 5] → K (.tuple ⟨[lv, vint 0]⟩) H) : Good prog J 37 [exV p, .slice (some ⟨q, 0, none⟩) 3 3, vint 4] h K := by
  have hg := (x_sound mixed 200 main J hJ).1 37 _ _ _ run37
  have := run_ints (K' := K) hg (blt_t (by kernel_rfl : Nat.blt 37 prog.funcs.size = true)) (lies2 hp hq hne) (by simp [exV, troCells, VOk, AOk, LOk, AddrOk, exH, hOf]) fun c sz => hK _ _ SameX.refl.app (sli_new (wr := true) (sz := sz) (by simp) rfl rfl)
  simpa [sub, subA, subL, exV, troCells] using this
theorem ex38 (hJ : Closed prog main J) {wr wr2 : Bool} (hp : h[p]? = some (.cells (exTro.flocks.flatMap Dro.cells) wr 0)) (hq : h[q]? = some (.cells ([0, 1].map vint) wr2 0)) (hne : p ≠ q)
    (hK : K (.tuple ⟨[vint 2, vint 0]⟩) h) : Good prog J 38 [exV p, .slice (some ⟨q, 0, none⟩) 2 2] h K := by
  have hg := (x_sound mixed 200 main J hJ).1 38 _ _ _ run38
  have := run_two (K' := K) hg (blt_t (by kernel_rfl : Nat.blt 38 prog.funcs.size = true)) (lies2 hp hq hne) (by simp [exV, troCells, VOk, AOk, LOk, AddrOk, exH, hOf]) hK
  simpa [sub, subA, subL, exV, troCells] using this
theorem ex39 (hJ : Closed prog main J) {wr : Bool} (hp : h[p]? = some (.cells (exTro.flocks.flatMap Dro.cells) wr 0))
    (hK : ∀ H lv, SameX [] h H → Sli H lv 1 3 [vint (-1), vint 0, vint 1] → K (.tuple ⟨[lv, vint 0]⟩) H) : Good prog J 39 [exV p] h K := by
  have hg := (x_sound mixed 200 main J hJ).1 39 _ _ _ run39
  have := run_ints (K' := K) hg (blt_t (by kernel_rfl : Nat.blt 39 prog.funcs.size = true)) (lies1 hp) (by simp [exV, troCells, VOk, AOk, LOk, AddrOk, exH1, hOf]) fun c sz => hK _ _ SameX.refl.app (sli_new (wr := true) (sz := sz) (by simp) rfl rfl)
  simpa [sub, subA, subL, exV, troCells] using this
theorem ex34 (hJ : Closed prog main J) (hK : K (.tuple ⟨[vint 4, vint 0]⟩) h) : Good prog J 34 [exTro.well.val, .agg ⟨[vint 12, vint 20, vint 1, vint 4, vint 3, vint 2]⟩, .agg ⟨[vint 3, vint 2, vint 2]⟩, vint 0, vint 3] h K := by
  have hg := (x_sound mixed 200 main J hJ).1 34 _ _ _ run34
  refine good_frame hg (blt_t (by kernel_rfl : Nat.blt 34 prog.funcs.size = true)) (by simp [exTro, Wel.val, Wel.cells, VOk, AOk, LOk]) fun v h' hx => ?_
  cases isTwo_t hx
  exact ⟨by simp [VOk, AOk, LOk], hK⟩
end
section
variable {W0 : World} {Post : Value → World → Prop} {h : List AObj} {K : Value → List AObj → Prop}
theorem fld_wel {fv : Value} {KV : Value → Prop} (hk : KV exTro.well.val) : aField true 3 0 (.agg ⟨troCells exTro fv⟩) KV :=
  ⟨(Nat.le_of_ble_eq_true rfl : 0 + 3 ≤ 4), hk⟩
theorem good19f (hK : ∀ H, SameX [] (unch h) H → K (.bool true) H) : Good prog (J1 prog W0 Post) 19 [] h K := by
  have hJ := J1.closed prog W0 Post
  refine g19 hJ fun ok => ?_
  rw [e19]
  refine good66 hJ fun H1 f1 S1 q1 T1 => ?_
  refine ⟨by decide, fill_one rfl rfl rfl (by decide) (fill_one rfl rfl rfl (by decide) (fill_one rfl rfl rfl (by decide) (fillI (qNew fun H2 p2 e2 S2 c2 l2 => ?_))))⟩
  have := lt_of_get q1
  refine ex37 hJ (S2.get q1 (by simp)) c2 (by omega) fun H3 lv S3 L3 => ?_
  refine vext0 (vext1 ?_)
  refine good66 hJ fun H4 f4 S4 q4 T4 => ?_
  refine ⟨by decide, fill_one rfl rfl rfl (by decide) (fill_one rfl rfl rfl (by decide) (fillI (qNew fun H5 p5 e5 S5 c5 l5 => ?_)))⟩
  have := lt_of_get q4
  refine ex38 hJ (S5.get q4 (by simp)) c5 (by omega) ?_
  refine vext0 (vext1 ?_)
  refine good66 hJ fun H7 f7 S7 q7 T7 => ?_
  refine ex39 hJ q7 fun H8 rv S8 R8 => ?_
  refine vext0 (vext1 ?_)
  refine good66 hJ fun H9 f9 S9 q9 T9 => ?_
  refine ⟨by decide, fill_one rfl rfl rfl (by decide) (fill_one rfl rfl rfl (by decide) (fillI (qNew fun H10 p10 e10 S10 c10 l10 => ?_)))⟩
  have s10 := ownX_sli (ownX_new (s := 1) (n := 2) (l := [vint 2, vint 0]) c10 rfl rfl)
  refine good26 (t := exTro) (cs := [2, 0]) ⟨T9.val, S10.sli T9.fl (by simp)⟩ s10 (by decide) (fun he => absurd ex_servE he) (fun _ hp => absurd hp (by rw [ex_pick]; decide)) fun _ i c os H hp hos S O => ?_
  have hi : i = 1 := by
    rw [ex_pick] at hp
    omega
  subst hi
  have ho : os = [1, 0] := by
    rw [ex_all] at hos
    exact (Option.some.inj hos).symm
  subst ho
  rw [ex_wait]
  -- what is kept till the end
  have A10 : SameX [] H3 H10 := (((S4.trans S5).trans S7).trans S8).trans (S9.trans S10)
  have B10 : SameX [] H8 H10 := S9.trans S10
  have L : Sli H lv 1 4 [vint 5, vint 3, vint 6, vint 5] := S.sli (unch_sli (A10.sli L3 (by simp))) (by simp)
  have R : Sli H rv 1 3 [vint (-1), vint 0, vint 1] := S.sli (unch_sli (B10.sli R8 (by simp))) (by simp)
  show aExt _ 0 _
  refine good66 hJ fun H11 f11 S11 q11 T11 => ?_
  rw [T11.val]
  refine fld_wel ?_
  refine good67 hJ (good68 hJ (ex34 hJ (vext0 (vext1 ?_))))
  have S11' : SameX [] H H11 := S11
  have ct : ∀ {a b : Int} {A B : Prop}, a = b → A → cnd (.bool (decide (a = b))) A B := fun e hA => by rw [decide_eq_true e]; exact cnd_true.2 hA
  refine eqlI (ct rfl (eqlI (ct rfl (eqlI (ct rfl (eqlI (ct rfl (eqlI (ct rfl (eqlI (ct rfl (eqlI (ct rfl (eqlI (ct rfl ?_)))))))))))))))
  refine ⟨by decide, fill_one rfl rfl rfl (by decide) (fill_one rfl rfl rfl (by decide) (fill_one rfl rfl rfl (by decide) (fill_one rfl rfl rfl (by decide) (fillI (qNew fun H13 p13 e13 S13 c13 l13 => ?_)))))⟩
  have s13 := ownX_sli (ownX_new (s := 1) (n := 4) (l := [vint 5, vint 3, vint 6, vint 5]) c13 rfl rfl)
  have S1113 : SameX [] H H13 := S11'.trans S13
  refine good28 (xs := [5, 3, 6, 5]) (ys := [5, 3, 6, 5]) hJ (S1113.sli L (by simp)) s13 (by decide) (cnd_true.2 ?_)
  refine ⟨by decide, fill_one rfl rfl rfl (by decide) (fill_one rfl rfl rfl (by decide) (fill_one rfl rfl rfl (by decide) (fillI (qNew fun H14 p14 e14 S14 c14 l14 => ?_))))⟩
  have s14 := ownX_sli (ownX_new (s := 1) (n := 3) (l := [vint (-1), vint 0, vint 1]) c14 rfl rfl)
  refine good28 (xs := [-1, 0, 1]) (ys := [-1, 0, 1]) hJ ((S1113.trans S14).sli R (by simp)) s14 (by decide) (cnd_true.2 ?_)
  refine ⟨by decide, fill_one rfl rfl rfl (by decide) (fill_one rfl rfl rfl (by decide) (fillI (qNew fun H15 p15 e15 S15 c15 l15 => ?_)))⟩
  have s15 := ownX_sli (ownX_new (s := 1) (n := 2) (l := [vint 1, vint 0]) c15 rfl rfl)
  refine good28 (xs := [1, 0]) (ys := [1, 0]) hJ (((S1113.trans S14).trans S15).sli O (by simp)) s15 (by decide) ?_
  have A0 : SameX [] h H10 := ((S1.trans S2).trans S3).trans A10
  have U : SameX [] (unch h) (unch H10) := by
    have := same_unch (g := []) A0
    rwa [List.append_nil] at this
  exact retL_same (by simp [unk]) (hK _ (((U.trans S).trans (S1113.trans S14)).trans S15))
theorem good19 (hK : ∀ H, K (.bool true) H) : Good prog (J1 prog W0 Post) 19 [] h K := good19f fun H _ => hK H
end
end Go.Proofs.Ytindillghipjjaa
namespace Go.Proofs.Ytindillghipjjaa
open Go.Conc Go.Proofs.Try
set_option maxRecDepth 100000
set_option maxHeartbeats 4000000
set_option linter.unusedVariables false
section
variable {main : Bool} {J : JT} {n0 : Nat} {h : List AObj} {K : Value → List AObj → Prop}
theorem at86 : prog.funcs[86]? = some f86 := by kernel_rfl
theorem body86 : f86.body = some (codeOf f86) := by kernel_rfl
def pl86 : Plans := []
def ct86 : Cuts := .go
theorem pok86 : plansOk prog pl86 (codeOf f86) = true := by kernel_rfl
theorem e86 {a0 a1 : Value} : W prog J 34 h.length 86 (codeOf f86) (RG.mk (regs [a0, a1]) []) h (RetQ prog [.tmp 4] h.length K) =
(aBox a0 h fun v1 h2 =>
aLoad true 4 v1 h2 fun v3 =>
Good prog J 48 [v3] h2 fun v4 h5 =>
aBin prog .neq 39 v4 (vint 0) fun v6 =>
cnd v6
(retL h.length K [] [v4] h5)
(aLenS a1 fun v7 =>
Good prog J 70 [v7, (vint 1), (vint 5)] h5 fun v8 h9 =>
aBin prog .neq 39 v8 (vint 0) fun v10 =>
cnd v10
(retL h.length K [] [v8] h9)
(aLenS a1 fun v11 =>
Sem J 34 h.length 86 (subC [1, 1, 1, 0, 1, 0] (codeOf f86)) (RG.p (RG.p (RG.p (RG.p (RG.p (RG.p (RG.p (RG.p (RG.p (RG.p (RG.p (RG.p (RG.p (RG.p (RG.p (RG.p (RG.mk (regs [a0, a1]) []) 2 v1) 4 (vint 0)) 9 v3) 10 v4) 5 v4) 11 v4) 12 v6) 14 a1) 15 v7) 16 v8) 6 v8) 17 v8) 18 v10) 20 a1) 21 v11) 22 (vint 0)) h9 (contX pl86 prog J 34 h.length 86 ct86 [1, 1, 1, 0, 1, 0] (codeOf f86) [] (RetQ prog [.tmp 4] h.length K))))) := top_eq pok86 ct86 (by kernel_rfl)
theorem g86 (hJ : Closed prog main J) {a0 a1 : Value} (hs : heapOk h → W prog J 34 h.length 86 (codeOf f86) (RG.mk (regs [a0, a1]) []) h (RetQ prog [.tmp 4] h.length K)) : Good prog J 86 [a0, a1] h K :=
  good_of_W hJ mixed at86 body86 (by kernel_rfl) (Nat.le_of_ble_eq_true rfl) hs
theorem s86_1 {f : RG} {nx0 : RG → List AObj → Prop} : W prog J 34 n0 86 (subC [1, 1, 1, 0, 1, 0, 0] (codeOf f86)) f h (thenK nx0 (contX pl86 prog J 34 n0 86 ct86 [1, 1, 1, 0, 1, 0] (codeOf f86) [] (RetQ prog [.tmp 4] n0 K))) =
(aBin prog .lss 3 (f.r 22) (f.r 21) fun v1 =>
cnd v1
(aIdx 1 (f.r 20) (f.r 22) fun v2 =>
aLoad false 1 v2 h fun v3 =>
aOff (f.r 2) 3 fun v4 =>
aLoad false 1 v4 h fun v5 =>
aLenS v5 fun v6 =>
aBin prog .sub 3 v6 (vint 1) fun v7 =>
Good prog J 71 [v3, (vint (-1)), v7] h fun v8 h9 =>
aUn .not v8 fun v10 =>
cnd v10
(retL n0 K f.ds [(vint 3)] h9)
(aBin prog .add 3 (f.r 22) (vint 1) fun v11 =>
nx0 (RG.p (RG.p (RG.p (RG.p (RG.p (RG.p (RG.p (RG.p (RG.p (RG.p (RG.p (RG.p (RG.p f 23 v1) 24 v2) 25 v3) 8 v3) 26 v3) 27 v4) 28 v5) 29 v6) 30 v7) 31 v8) 32 v10) 33 v11) 22 v11) h9))
(retL n0 K f.ds [(vint 0)] h)) := sub_eq pok86 ct86 (by kernel_rfl)
theorem l86_1 (hJ : Closed prog main J) {S : Type} (μ : S → Nat) (I : S → RG → List AObj → Prop) (hI : ∀ s f h, I s f h → heapOk h → n0 ≤ h.length → W prog J 34 n0 86 (subC [1, 1, 1, 0, 1, 0, 0] (codeOf f86)) f h (thenK (Nx n0 μ I s) (contX pl86 prog J 34 n0 86 ct86 [1, 1, 1, 0, 1, 0] (codeOf f86) [] (RetQ prog [.tmp 4] n0 K))))
  {s : S} {f : RG} (hi : Gets n0 I s f h) : Sem J 34 n0 86 (subC [1, 1, 1, 0, 1, 0] (codeOf f86)) f h (contX pl86 prog J 34 n0 86 ct86 [1, 1, 1, 0, 1, 0] (codeOf f86) [] (RetQ prog [.tmp 4] n0 K)) :=
  loop_rule hJ mixed (b := subC [1, 1, 1, 0, 1, 0, 0] (codeOf f86)) (by kernel_rfl) μ I hI hi
theorem at89 : prog.funcs[89]? = some f89 := by kernel_rfl
theorem body89 : f89.body = some (codeOf f89) := by kernel_rfl
def pl89 : Plans := [(6, false, .take 0 (.take 1 (.take 2 (.take 3 (.take 4 (.take 5 (.take 6 (.last 7 true (.last 8 false (.fin))))))))))]
def ct89 : Cuts := .go
theorem pok89 : plansOk prog pl89 (codeOf f89) = true := by kernel_rfl
theorem e89 {a0 a1 : Value} : W prog J 34 h.length 89 (codeOf f89) (RG.mk (regs [a0, a1]) []) h (RetQ prog [.tmp 4] h.length K) =
(aBox a0 h fun v1 h2 =>
aBox a1 h2 fun v3 h4 =>
aNewM h4 fun v5 h6 =>
aAlloc [(Value.map none)] h6 fun v7 h8 =>
aStore 1 v7 v5 h8 fun h9 =>
aAlloc [(vint 0)] h9 fun v10 h11 =>
aStore 1 v10 (vint (-1)) h11 fun h12 =>
aLoad true 4 v1 h12 fun v13 =>
aLoad false 1 v3 h12 fun v14 =>
Good prog J 120 [v13, v14] h12 fun v15 h16 =>
Sem J 34 h.length 89 (subC [1, 0, 1, 1, 1, 0, 1, 0] (codeOf f89)) (RG.p (RG.p (RG.p (RG.p (RG.p (RG.p (RG.p (RG.p (RG.p (RG.mk (regs [a0, a1]) []) 2 v1) 3 v3) 4 (vint 0)) 10 v5) 5 v7) 6 v10) 11 v13) 12 v14) 13 v15) h16 (contX pl89 prog J 34 h.length 89 ct89 [1, 0, 1, 1, 1, 0, 1, 0] (codeOf f89) [] (RetQ prog [.tmp 4] h.length K))) := top_eq pok89 ct89 (by kernel_rfl)
theorem g89 (hJ : Closed prog main J) {a0 a1 : Value} (hs : heapOk h → W prog J 34 h.length 89 (codeOf f89) (RG.mk (regs [a0, a1]) []) h (RetQ prog [.tmp 4] h.length K)) : Good prog J 89 [a0, a1] h K :=
  good_of_W hJ mixed at89 body89 (by kernel_rfl) (Nat.le_of_ble_eq_true rfl) hs
theorem a89_1 {f : RG} {fr : FuncId} {Q : QT} : W prog J 34 n0 fr (subC [1, 0, 1, 1, 1, 0, 1, 0, 0] (codeOf f89)) f h Q =
(aAlloc [(vint 0), (vint 0), (Value.bool false)] h fun v1 h2 =>
aStore 3 v1 (f.r 15) h2 fun h3 =>
Q .normal (RG.p (RG.p f 7 (f.r 14)) 8 v1) h3) := sub_eq pok89 ct89 (by kernel_rfl)
theorem b89_1 {f : RG} {fr : FuncId} {Q : QT} : W prog J 34 n0 fr (subC [1, 0, 1, 1, 1, 0, 1, 0, 1] (codeOf f89)) f h Q =
((∃ B, aOff (f.r 8) 0 fun v1 =>
aLoad false 1 v1 h fun v2 =>
RdOk (some B) (ptrBlk v1) ∧ (aLoad false 1 (f.r 3) h fun v3 =>
RdOk (some B) (ptrBlk (f.r 3)) ∧ (aLenS v3 fun v4 =>
RdOk (some B) (mapBlk v3) ∧ (aBin prog .rem 3 (f.r 7) v4 fun v5 =>
aFill [(vint 0), (vint 0)] [(0, 1, v2), (1, 1, v5)] fun c6 =>
aAlloc [(vint 0), (vint 0)] h fun v7 h8 =>
SameB (some B) h h8 ∧ (aStore 2 v7 (Value.agg ⟨c6⟩) h8 fun h9 =>
aOff (f.r 8) 2 fun v10 =>
aLoad false 1 v10 h9 fun v11 =>
cnd v11
(aStore 1 (f.r 6) (f.r 7) h9 fun h12 =>
Q (.exit 0) (RG.p (RG.p (RG.p (RG.p (RG.p (RG.p (RG.p (RG.p (RG.p (RG.p (RG.p (RG.p f 16 v1) 17 v2) 18 (f.r 7)) 19 v3) 20 v4) 21 v5) 22 (Value.agg ⟨c6⟩)) 9 v7) 24 v10) 25 v11) 23 v11) 26 (f.r 7)) h12)
(aLoad false 1 (f.r 5) h9 fun v13 =>
aLoad true 2 v7 h9 fun v14 =>
aLook prog 134 false v13 v14 h9 fun v15 =>
cnd v15
(Q (.exit 0) (RG.p (RG.p (RG.p (RG.p (RG.p (RG.p (RG.p (RG.p (RG.p (RG.p (RG.p (RG.p (RG.p (RG.p (RG.p f 16 v1) 17 v2) 18 (f.r 7)) 19 v3) 20 v4) 21 v5) 22 (Value.agg ⟨c6⟩)) 9 v7) 24 v10) 25 v11) 23 v11) 28 v13) 29 v14) 30 v15) 27 v15) h9)
(aLoad false 1 (f.r 5) h9 fun v16 =>
aLoad true 2 v7 h9 fun v17 =>
((VOk h9.length (Value.bool true) ∧ one (Value.bool true) = true) ∧ aUpd prog 134 v16 v17 (Value.bool true) h9 fun h18 =>
Q .normal (RG.p (RG.p (RG.p (RG.p (RG.p (RG.p (RG.p (RG.p (RG.p (RG.p (RG.p (RG.p (RG.p (RG.p (RG.p (RG.p (RG.p f 16 v1) 17 v2) 18 (f.r 7)) 19 v3) 20 v4) 21 v5) 22 (Value.agg ⟨c6⟩)) 9 v7) 24 v10) 25 v11) 23 v11) 28 v13) 29 v14) 30 v15) 27 v15) 31 v16) 32 v17) h18))))))))) := sub_eq pok89 ct89 (by kernel_rfl)
theorem c89_1x0 {f : RG} : (contX pl89 prog J 34 n0 89 ct89 [1, 0, 1, 1, 1, 0, 1, 0] (codeOf f89) [] (RetQ prog [.tmp 4] n0 K)) (.exit 0) f h =
(aLoad false 1 (f.r 6) h fun v1 =>
retL n0 K f.ds [v1] h) := by kernel_rfl
theorem l89_1 (hJ : Closed prog main J) {f : RG} {g : FuncId} {first cap : List Value} (hx : ev f.r ((Go.Operand.tmp 13)) = .func (.func g) ⟨first⟩ ⟨cap⟩) (hg : g < prog.funcs.size)
  (hs : Good prog J g (first ++ [.func (.yield (h.length + 1)) ⟨[]⟩ ⟨[]⟩] ++ cap) (h ++ [.deferred] ++ [.loop .ready none 89 f.r 34 #[14, 15] (subC [1, 0, 1, 1, 1, 0, 1, 0, 0] (codeOf f89)) (subC [1, 0, 1, 1, 1, 0, 1, 0, 1] (codeOf f89)) h.length]) (endQ h.length f (contX pl89 prog J 34 n0 89 ct89 [1, 0, 1, 1, 1, 0, 1, 0] (codeOf f89) [] (RetQ prog [.tmp 4] n0 K)))) : Sem J 34 n0 89 (subC [1, 0, 1, 1, 1, 0, 1, 0] (codeOf f89)) f h (contX pl89 prog J 34 n0 89 ct89 [1, 0, 1, 1, 1, 0, 1, 0] (codeOf f89) [] (RetQ prog [.tmp 4] n0 K)) :=
  Sem_range hJ (by decide) (fop := (Go.Operand.tmp 13)) (params := #[14, 15]) (assign := subC [1, 0, 1, 1, 1, 0, 1, 0, 0] (codeOf f89)) (body := subC [1, 0, 1, 1, 1, 0, 1, 0, 1] (codeOf f89)) hx hg hs
end
section
variable {main : Bool} {J : JT} {n0 : Nat} {h : List AObj} {K : Value → List AObj → Prop}
theorem at120 : prog.funcs[120]? = some f120 := by kernel_rfl
theorem body120 : f120.body = some (codeOf f120) := by kernel_rfl
def pl120 : Plans := []
def ct120 : Cuts := .go
theorem pok120 : plansOk prog pl120 (codeOf f120) = true := by kernel_rfl
theorem e120 {a0 a1 : Value} : W prog J 6 h.length 120 (codeOf f120) (RG.mk (regs [a0, a1]) []) h (RetQ prog [.tmp 4] h.length K) =
(aBox a0 h fun v1 h2 =>
aBox a1 h2 fun v3 h4 =>
aMkF 131 [] [v1, v3] fun v5 =>
retL h.length K [] [v5] h4) := top_eq pok120 ct120 (by kernel_rfl)
theorem g120 (hJ : Closed prog main J) {a0 a1 : Value} (hs : heapOk h → W prog J 6 h.length 120 (codeOf f120) (RG.mk (regs [a0, a1]) []) h (RetQ prog [.tmp 4] h.length K)) : Good prog J 120 [a0, a1] h K :=
  good_of_W hJ mixed at120 body120 (by kernel_rfl) (Nat.le_of_ble_eq_true rfl) hs
end
section
variable {main : Bool} {J : JT} {n0 : Nat} {h : List AObj} {K : Value → List AObj → Prop}
theorem at131 : prog.funcs[131]? = some f131 := by kernel_rfl
theorem body131 : f131.body = some (codeOf f131) := by kernel_rfl
def pl131 : Plans := [(4, true, .take 0 (.take 1 (.take 2 (.take 3 (.take 4 (.take 5 (.take 6 (.take 7 (.fin)))))))))]
def ct131 : Cuts := .bin (.go) (.bin (.go) (.un (.un (.bin (.un (.bin (.go) (.bin (.go) (.cut (.go))))) (.go)))))
theorem pok131 : plansOk prog pl131 (codeOf f131) = true := by kernel_rfl
theorem e131 {a0 a1 a2 : Value} : W prog J 55 h.length 131 (codeOf f131) (RG.mk (regs [a0, a1, a2]) []) h (RetQ prog [] h.length K) =
(aOff a1 0 fun v1 =>
aLoad true 3 v1 h fun v2 =>
aFill [(vint 0), (vint 0), (vint 0)] [(0, 3, v2)] fun c3 =>
aAlloc [(vint 0), (vint 0), (vint 0)] h fun v4 h5 =>
aStore 3 v4 (Value.agg ⟨c3⟩) h5 fun h6 =>
Sem J 55 h.length 131 (subC [1, 1, 0] (codeOf f131)) (RG.p (RG.p (RG.p (RG.p (RG.p (RG.p (RG.p (RG.mk (regs [a0, a1, a2]) []) 11 v1) 12 v2) 13 (Value.agg ⟨c3⟩)) 4 v4) 5 (Value.func (.func 82) #[] #[])) 6 (Value.func (.func 79) #[] #[])) 7 (vint 0)) h6 (contX pl131 prog J 55 h.length 131 ct131 [1, 1, 0] (codeOf f131) [] (RetQ prog [] h.length K))) := top_eq pok131 ct131 (by kernel_rfl)
theorem g131 (hJ : Closed prog main J) {a0 a1 a2 : Value} (hs : heapOk h → W prog J 55 h.length 131 (codeOf f131) (RG.mk (regs [a0, a1, a2]) []) h (RetQ prog [] h.length K)) : Good prog J 131 [a0, a1, a2] h K :=
  good_of_W hJ mixed at131 body131 (by kernel_rfl) (Nat.le_of_ble_eq_true rfl) hs
theorem s131_1 {f : RG} {nx0 : RG → List AObj → Prop} : W prog J 55 n0 131 (subC [1, 1, 0, 0] (codeOf f131)) f h (thenK nx0 (contX pl131 prog J 55 n0 131 ct131 [1, 1, 0] (codeOf f131) [] (RetQ prog [] n0 K))) =
(aLoad false 1 (f.r 2) h fun v1 =>
aLoad false 1 (f.r 2) h fun v2 =>
aLenS v2 fun v3 =>
aBin prog .rem 3 (f.r 7) v3 fun v4 =>
aIdx 1 v1 v4 fun v5 =>
aLoad false 1 v5 h fun v6 =>
aBin prog .geq 3 v6 (vint 0) fun v7 =>
cnd v7
(aOff (f.r 1) 3 fun v8 =>
aLoad false 1 v8 h fun v9 =>
aIdx 2 v9 v6 fun v10 =>
aOff v10 0 fun v11 =>
aLoad false 1 v11 h fun v12 =>
Hold (W prog J 55 n0 131 (subC [1, 1, 0, 0, 0, 0, 1, 1] (codeOf f131)) (RG.p (RG.p (RG.p (RG.p (RG.p (RG.p (RG.p (RG.p (RG.p (RG.p (RG.p (RG.p (RG.p (RG.p (RG.p (RG.p (RG.p (RG.p f 8 (vint 0)) 16 v1) 17 (f.r 7)) 18 v2) 19 v3) 20 v4) 21 v5) 22 v6) 9 v6) 23 v6) 24 v7) 25 v8) 26 v9) 27 v6) 28 v10) 29 v11) 30 v12) 8 v12) h (contX pl131 prog J 55 n0 131 ct131 [1, 1, 0, 0, 0, 0, 1, 1] (codeOf f131) [nx0] (RetQ prog [] n0 K))))
(Hold (W prog J 55 n0 131 (subC [1, 1, 0, 0, 0, 0, 1, 1] (codeOf f131)) (RG.p (RG.p (RG.p (RG.p (RG.p (RG.p (RG.p (RG.p (RG.p (RG.p (RG.p f 8 (vint 0)) 16 v1) 17 (f.r 7)) 18 v2) 19 v3) 20 v4) 21 v5) 22 v6) 9 v6) 23 v6) 24 v7) h (contX pl131 prog J 55 n0 131 ct131 [1, 1, 0, 0, 0, 0, 1, 1] (codeOf f131) [nx0] (RetQ prog [] n0 K))))) := sub_eq pok131 ct131 (by kernel_rfl)
theorem l131_1 (hJ : Closed prog main J) {S : Type} (μ : S → Nat) (I : S → RG → List AObj → Prop) (hI : ∀ s f h, I s f h → heapOk h → n0 ≤ h.length → W prog J 55 n0 131 (subC [1, 1, 0, 0] (codeOf f131)) f h (thenK (Nx n0 μ I s) (contX pl131 prog J 55 n0 131 ct131 [1, 1, 0] (codeOf f131) [] (RetQ prog [] n0 K))))
  {s : S} {f : RG} (hi : Gets n0 I s f h) : Sem J 55 n0 131 (subC [1, 1, 0] (codeOf f131)) f h (contX pl131 prog J 55 n0 131 ct131 [1, 1, 0] (codeOf f131) [] (RetQ prog [] n0 K)) :=
  loop_rule hJ mixed (b := subC [1, 1, 0, 0] (codeOf f131)) (by kernel_rfl) μ I hI hi
theorem s131_2 {f : RG} {nx0 : RG → List AObj → Prop} : W prog J 55 n0 131 (subC [1, 1, 0, 0, 0, 0, 1, 1] (codeOf f131)) f h (contX pl131 prog J 55 n0 131 ct131 [1, 1, 0, 0, 0, 0, 1, 1] (codeOf f131) [nx0] (RetQ prog [] n0 K)) =
(aOff (f.r 4) 0 fun v1 =>
aOff v1 0 fun v2 =>
aLoad false 1 v2 h fun v3 =>
aFill [(vint 0), (vint 0), (Value.bool false)] [(0, 1, v3)] fun c4 =>
aAlloc [(vint 0), (vint 0), (Value.bool false)] h fun v5 h6 =>
aStore 3 v5 (Value.agg ⟨c4⟩) h6 fun h7 =>
aLoad true 3 (f.r 4) h7 fun v8 =>
callV prog (Good prog J) (f.r 5) [v8, (f.r 8)] h7 fun v9 h10 =>
aExt v9 0 fun v11 =>
aExt v9 1 fun v12 =>
aStore 3 (f.r 4) v11 h10 fun h13 =>
aOff v5 2 fun v14 =>
aStore 1 v14 v12 h13 fun h15 =>
aLoad true 3 (f.r 4) h15 fun v16 =>
callV prog (Good prog J) (f.r 6) [v16] h15 fun v17 h18 =>
aStore 3 (f.r 4) v17 h18 fun h19 =>
aOff (f.r 4) 0 fun v20 =>
aOff v20 0 fun v21 =>
aLoad false 1 v21 h19 fun v22 =>
aOff v5 1 fun v23 =>
aStore 1 v23 v22 h19 fun h24 =>
aLoad true 3 v5 h24 fun v25 =>
callV prog (Good prog J) (f.r 0) [(f.r 7), v25] h24 fun v26 h27 =>
aUn .not v26 fun v28 =>
cnd v28
(retL n0 K f.ds [] h27)
(aBin prog .add 3 (f.r 7) (vint 1) fun v29 =>
nx0 (RG.p (RG.p (RG.p (RG.p (RG.p (RG.p (RG.p (RG.p (RG.p (RG.p (RG.p (RG.p (RG.p (RG.p (RG.p (RG.p (RG.p (RG.p (RG.p (RG.p (RG.p (RG.p (RG.p (RG.p (RG.p (RG.p (RG.p (RG.p f 31 v1) 32 v2) 33 v3) 34 (Value.agg ⟨c4⟩)) 10 v5) 36 (f.r 5)) 37 v8) 38 (f.r 8)) 39 v9) 35 v9) 40 v11) 41 v12) 42 v14) 43 (f.r 6)) 44 v16) 45 v17) 46 v20) 47 v21) 48 v22) 49 v23) 50 (f.r 0)) 51 (f.r 7)) 52 v25) 53 v26) 54 v28) 14 (f.r 7)) 15 v29) 7 v29) h27)) := sub_eq pok131 ct131 (by kernel_rfl)
end
end Go.Proofs.Ytindillghipjjaa
namespace Go.Proofs.Ytindillghipjjaa
open Go.Conc Go.Proofs.Try
set_option maxRecDepth 100000
def rotaE (t : Tro) (rota : List Int) : Int := if troE t ≠ 0 then troE t else if fewE rota.length 1 5 ≠ 0 then fewE rota.length 1 5 else if ∀ r ∈ rota, -1 ≤ r ∧ r ≤ (t.flocks.length : Int) - 1 then 0 else 3
section
variable {main : Bool} {J : JT} {h : List AObj} {K : Value → List AObj → Prop}
theorem good86 (hJ : Closed prog main J) {v fv rv : Value} {t : Tro} {rota : List Int} (ht : TroAt h v t fv) (hr : Sli h rv 1 rota.length (rota.map vint)) (hl : t.flocks.length ≤ 1000000) (hK : K (vint (rotaE t rota)) h) : Good prog J 86 [v, rv] h K := by
  refine g86 hJ fun ok => ?_
  rw [e86, ht.val]
  refine qBox (tro_one ht) fun H1 p2 e1 S1 c1 l1 => ?_
  have t1 : TroAt H1 (.agg ⟨troCells t fv⟩) t fv := ⟨rfl, S1.sli ht.fl (by simp)⟩
  have kf := (sli_val ht.fl).2.2
  have r1 : Sli H1 rv 1 rota.length (rota.map vint) := S1.sli hr (by simp)
  have fin : ∀ (e : Int) (n0 : Nat), n0 = h.length → rotaE t rota = e → retL n0 K [] [vint e] H1 := fun e n0 hn he => by
    subst he hn
    exact retX ok (Nat.le_refl _) S1 (by simp) (by simp [unk]) (by simp [pack, VOk]) hK
  refine load_part (c := troCells t fv) c1 (by simp [troCells]) rfl (by simp [kn, troCells, kf]; exact ⟨rfl, rfl, rfl⟩) (good48 hJ t1 ?_)
  refine neqI (cndI (fun g1 => fin _ _ rfl (by unfold rotaE; rw [if_pos g1])) fun g1 => ?_)
  refine lenI r1 (good70 hJ (neqI (cndI (fun g2 => fin _ _ rfl (by unfold rotaE; rw [if_neg g1, if_pos g2])) fun g2 => lenI r1 ?_)))
  have hlen : rota.length ≤ 5 := by
    have g2 : fewE rota.length 1 5 = 0 := by omega
    unfold fewE at g2
    split at g2
    · cases g2
    · split at g2
      · cases g2
      · omega
  refine l86_1 hJ (fun i : Nat => rota.length - i) (fun i f H => H1 = H ∧ i ≤ rota.length ∧ (∀ r ∈ rota.take i, -1 ≤ r ∧ r ≤ (t.flocks.length : Int) - 1) ∧ f.ds = [] ∧ f.r 2 = ptr p2 0 ∧ f.r 20 = rv ∧ f.r 21 = vint (rota.length : Nat) ∧ f.r 22 = vint (i : Nat)) ?_ (s := 0)
    (.inl ⟨rfl, by omega, by simp, rfl, rfl, rfl, rfl, rfl⟩)
  rintro i f H ⟨e, hi, hd, ds, r2, r20, r21, r22⟩ _ _
  subst e
  rw [s86_1, ds, r2, r20, r21, r22]
  refine lssI (cndI (fun g => ?_) fun g => fin 0 _ rfl ?_)
  · have hil : i < rota.length := by omega
    have hx := List.getElem?_eq_getElem hil
    refine sli_num' r1 hx fun q => offI (ldI (v := fv) c1 rfl kf (lenI t1.fl (subI (by omega) (good71 hJ (notI (cndN (fun g3 => fin 3 _ rfl ?_) fun g3 => addI (by omega) ?_))))))
    · unfold rotaE
      rw [if_neg g1, if_neg g2, if_neg fun y => g3 (y _ (List.getElem_mem hil))]
    · refine ⟨i + 1, by show rota.length - (i + 1) < rota.length - i; omega, .inl ⟨rfl, by omega, ?_, ds, r2, r20, r21, ?_⟩⟩
      · intro c hcm
        rw [List.take_add_one, hx] at hcm
        rcases List.mem_append.1 hcm with y | y
        · exact hd c y
        · simp at y
          subst y
          exact g3
      · show vint _ = vint _
        congr 1
  · have hin : i = rota.length := by omega
    subst hin
    rw [List.take_length] at hd
    unfold rotaE
    rw [if_neg g1, if_neg g2, if_pos hd]
end
end Go.Proofs.Ytindillghipjjaa
namespace Go.Proofs.Ytindillghipjjaa
open Go.Conc Go.Proofs.Try
set_option maxRecDepth 100000
set_option maxHeartbeats 4000000
set_option linter.unusedVariables false
section
variable {main : Bool} {J : JT} {n0 : Nat} {h : List AObj} {K : Value → List AObj → Prop}
theorem at30 : prog.funcs[30]? = some f30 := by kernel_rfl
theorem body30 : f30.body = some (codeOf f30) := by kernel_rfl
def pl30 : Plans := [(2, false, .take 0 (.take 1 (.take 2 (.take 3 (.take 4 (.take 5 (.take 9 (.take 10 (.last 6 true (.last 7 true (.last 8 true (.take 14 (.last 11 true (.last 12 true (.last 13 true (.last 15 false (.take 16 (.last 17 false (.fin)))))))))))))))))))]
def ct30 : Cuts := .go
theorem pok30 : plansOk prog pl30 (codeOf f30) = true := by kernel_rfl
theorem e30 {a0 a1 : Value} : W prog J 29 h.length 30 (codeOf f30) (RG.mk (regs [a0, a1]) []) h (RetQ prog [.cell 4 23] h.length K) =
(aAlloc [(vint 0), (vint 0), (vint 0)] h fun v1 h2 =>
aMin a1 [(vint 40)] fun v3 =>
aMax (vint 2) [v3] fun v4 =>
Good prog J 33 [a0, (vint 2), v4] h2 fun v5 h6 =>
aFill [(vint 0), (vint 0), (vint 0)] [(1, 1, v5)] fun c7 =>
aAlloc [(vint 0), (vint 0), (vint 0)] h6 fun v8 h9 =>
aStore 3 v8 (Value.agg ⟨c7⟩) h9 fun h10 =>
(∃ B, aOff v8 1 fun v11 =>
aLoad false 1 v11 h10 fun v12 =>
RdOk (some B) (ptrBlk v11) ∧ (aOff v8 1 fun v13 =>
aLoad false 1 v13 h10 fun v14 =>
RdOk (some B) (ptrBlk v13) ∧ (Good prog J 23 [a0, v14] h10 fun v15 h16 =>
SameB (some B) h10 h16 ∧ ((((1 * 1 : Nat) ≤ 16777216 ∧ (1 : Nat) ≤ 16777216 ∧ List.length [(vint 0)] = 1) ∧ aFill (zrep [(vint 0)] 1) [(0, 1, v15)] fun c17 =>
aNewS 1 c17 h16 fun v18 h19 =>
SameB (some B) h10 h19 ∧ (Good prog J 22 [a0, v12, v18] h19 fun v20 h21 =>
SameB (some B) h10 h21 ∧ (aOff v8 0 fun v22 =>
Good prog J 23 [a0, (vint 6)] h21 fun v23 h24 =>
SameB (some B) h10 h24 ∧ ((((3 * 1 : Nat) ≤ 16777216 ∧ (3 : Nat) ≤ 16777216 ∧ List.length [(vint 0)] = 1) ∧ aFill (zrep [(vint 0)] 3) [(0, 1, (vint 2)), (1, 1, (vint 3)), (2, 1, v23)] fun c25 =>
aNewS 3 c25 h24 fun v26 h27 =>
SameB (some B) h10 h27 ∧ (Good prog J 22 [a0, (vint 1), v26] h27 fun v28 h29 =>
SameB (some B) h10 h29 ∧ (aStore 1 v22 v20 h29 fun h30 =>
aOff v8 2 fun v31 =>
aStore 1 v31 v28 h30 fun h32 =>
aLoad true 3 v8 h32 fun v33 =>
aStore 3 v1 v33 h32 fun h34 =>
RetQ prog [.cell 4 23] h.length K .ret (RG.p (RG.p (RG.p (RG.p (RG.p (RG.p (RG.p (RG.p (RG.p (RG.p (RG.p (RG.p (RG.p (RG.p (RG.p (RG.p (RG.p (RG.p (RG.p (RG.p (RG.p (RG.p (RG.p (RG.p (RG.p (RG.mk (regs [a0, a1]) []) 4 v1) 6 a0) 7 a1) 8 v3) 9 v4) 10 v5) 11 (Value.agg ⟨c7⟩)) 5 v8) 12 a0) 13 v11) 14 v12) 15 a0) 16 v13) 17 v14) 21 a0) 22 a0) 18 v15) 19 v18) 20 v20) 26 v22) 23 v23) 24 v26) 25 v28) 27 v31) 28 v33) h34)))))))))))) := top_eq pok30 ct30 (by kernel_rfl)
theorem g30 (hJ : Closed prog main J) {a0 a1 : Value} (hs : heapOk h → W prog J 29 h.length 30 (codeOf f30) (RG.mk (regs [a0, a1]) []) h (RetQ prog [.cell 4 23] h.length K)) : Good prog J 30 [a0, a1] h K :=
  good_of_W hJ mixed at30 body30 (by kernel_rfl) (Nat.le_of_ble_eq_true rfl) hs
theorem at21 : prog.funcs[21]? = some f21 := by kernel_rfl
theorem body21 : f21.body = some (codeOf f21) := by kernel_rfl
def pl21 : Plans := [(5, false, .take 0 (.take 1 (.take 2 (.take 3 (.take 4 (.take 5 (.take 6 (.take 7 (.take 8 (.take 10 (.take 11 (.take 12 (.take 13 (.take 17 (.last 9 true (.last 14 true (.last 15 true (.last 16 true (.last 18 true (.take 19 (.last 20 true (.last 21 true (.take 22 (.last 23 false (.fin)))))))))))))))))))))))))]
def ct21 : Cuts := .go
theorem pok21 : plansOk prog pl21 (codeOf f21) = true := by kernel_rfl
theorem e21 {a0 a1 a2 : Value} : W prog J 45 h.length 21 (codeOf f21) (RG.mk (regs [a0, a1, a2]) []) h (RetQ prog [.cell 6 26] h.length K) =
(aAlloc [(vint 0), (vint 0), (vint 0), (Value.slice none 0 0)] h fun v1 h2 =>
Good prog J 30 [a0, a2] h2 fun v3 h4 =>
aFill [(vint 0), (vint 0), (vint 0), (Value.slice none 0 0)] [(0, 3, v3)] fun c5 =>
aAlloc [(vint 0), (vint 0), (vint 0), (Value.slice none 0 0)] h4 fun v6 h7 =>
aStore 4 v6 (Value.agg ⟨c5⟩) h7 fun h8 =>
aMin a1 [(vint 3)] fun v9 =>
Good prog J 33 [a0, (vint 1), v9] h8 fun v10 h11 =>
Sem J 45 h.length 21 (subC [1, 1, 0, 1, 0] (codeOf f21)) (RG.p (RG.p (RG.p (RG.p (RG.p (RG.p (RG.p (RG.p (RG.p (RG.p (RG.p (RG.mk (regs [a0, a1, a2]) []) 6 v1) 9 a0) 10 a2) 11 v3) 12 (Value.agg ⟨c5⟩)) 7 v6) 13 a0) 14 a1) 15 v9) 16 v10) 8 v10) h11 (contX pl21 prog J 45 h.length 21 ct21 [1, 1, 0, 1, 0] (codeOf f21) [] (RetQ prog [.cell 6 26] h.length K))) := top_eq pok21 ct21 (by kernel_rfl)
theorem g21 (hJ : Closed prog main J) {a0 a1 a2 : Value} (hs : heapOk h → W prog J 45 h.length 21 (codeOf f21) (RG.mk (regs [a0, a1, a2]) []) h (RetQ prog [.cell 6 26] h.length K)) : Good prog J 21 [a0, a1, a2] h K :=
  good_of_W hJ mixed at21 body21 (by kernel_rfl) (Nat.le_of_ble_eq_true rfl) hs
theorem s21_1 {f : RG} {nx0 : RG → List AObj → Prop} : W prog J 45 n0 21 (subC [1, 1, 0, 1, 0, 0] (codeOf f21)) f h (thenK nx0 (contX pl21 prog J 45 n0 21 ct21 [1, 1, 0, 1, 0] (codeOf f21) [] (RetQ prog [.cell 6 26] n0 K))) =
(aBin prog .gtr 3 (f.r 8) (vint 0) fun v1 =>
cnd v1
((∃ B, aOff (f.r 7) 3 fun v2 =>
aLoad false 1 v2 h fun v3 =>
RdOk (some B) (ptrBlk v2) ∧ (aOff (f.r 7) 0 fun v4 =>
aOff v4 1 fun v5 =>
aLoad false 1 v5 h fun v6 =>
RdOk (some B) (ptrBlk v5) ∧ (aBin prog .quo 3 v6 (vint 2) fun v7 =>
aMax (vint 1) [v7] fun v8 =>
aOff (f.r 7) 0 fun v9 =>
aOff v9 1 fun v10 =>
aLoad false 1 v10 h fun v11 =>
RdOk (some B) (ptrBlk v10) ∧ (Good prog J 33 [(f.r 0), (vint 1), v8] h fun v12 h13 =>
SameB (some B) h h13 ∧ (Good prog J 33 [(f.r 0), (vint 1), v11] h13 fun v14 h15 =>
SameB (some B) h h15 ∧ ((((3 * 1 : Nat) ≤ 16777216 ∧ (3 : Nat) ≤ 16777216 ∧ List.length [(vint 0)] = 1) ∧ aFill (zrep [(vint 0)] 3) [(0, 1, (vint 2)), (1, 1, v12), (2, 1, v14)] fun c16 =>
aNewS 3 c16 h15 fun v17 h18 =>
SameB (some B) h h18 ∧ (Good prog J 22 [(f.r 0), (vint 1), v17] h18 fun v19 h20 =>
SameB (some B) h h20 ∧ (Good prog J 33 [(f.r 0), (vint 1), (vint 6)] h20 fun v21 h22 =>
SameB (some B) h h22 ∧ (aFill [(vint 0), (vint 0)] [(0, 1, v19), (1, 1, v21)] fun c23 =>
(((1 * 2 : Nat) ≤ 16777216 ∧ (1 : Nat) ≤ 16777216 ∧ List.length [(vint 0), (vint 0)] = 2) ∧ aFill (zrep [(vint 0), (vint 0)] 1) [(0, 2, (Value.agg ⟨c23⟩))] fun c24 =>
aNewS 1 c24 h22 fun v25 h26 =>
SameB (some B) h h26 ∧ (((List.length [(vint 0), (vint 0)] = 2 ∧ 0 < (2 : Nat) ∧ 0 < (16 : Nat) ∧ (16 : Nat) ≤ 1024) ∧ aApp 2 v3 v25 h26 fun v27 h28 =>
SameB (some B) h h28 ∧ (aOff (f.r 7) 3 fun v29 =>
aStore 1 v29 v27 h28 fun h30 =>
aBin prog .sub 3 (f.r 8) (vint 1) fun v31 =>
nx0 (RG.p (RG.p (RG.p (RG.p (RG.p (RG.p (RG.p (RG.p (RG.p (RG.p (RG.p (RG.p (RG.p (RG.p (RG.p (RG.p (RG.p (RG.p (RG.p (RG.p (RG.p (RG.p (RG.p (RG.p (RG.p (RG.p (RG.p (RG.p f 17 (f.r 8)) 18 v1) 21 v2) 22 v3) 23 (f.r 0)) 24 (f.r 0)) 25 v4) 26 v5) 27 v6) 28 v7) 29 v8) 31 (f.r 0)) 32 v9) 33 v10) 34 v11) 38 (f.r 0)) 30 v12) 35 v14) 36 v17) 37 v19) 39 v21) 40 (Value.agg ⟨c23⟩)) 41 v25) 42 v27) 43 v29) 19 (f.r 8)) 20 v31) 8 v31) h30)))))))))))))))
(aLoad true 4 (f.r 7) h fun v32 =>
aStore 4 (f.r 6) v32 h fun h33 =>
RetQ prog [.cell 6 26] n0 K .ret (RG.p (RG.p (RG.p f 17 (f.r 8)) 18 v1) 44 v32) h33)) := sub_eq pok21 ct21 (by kernel_rfl)
theorem l21_1 (hJ : Closed prog main J) {S : Type} (μ : S → Nat) (I : S → RG → List AObj → Prop) (hI : ∀ s f h, I s f h → heapOk h → n0 ≤ h.length → W prog J 45 n0 21 (subC [1, 1, 0, 1, 0, 0] (codeOf f21)) f h (thenK (Nx n0 μ I s) (contX pl21 prog J 45 n0 21 ct21 [1, 1, 0, 1, 0] (codeOf f21) [] (RetQ prog [.cell 6 26] n0 K))))
  {s : S} {f : RG} (hi : Gets n0 I s f h) : Sem J 45 n0 21 (subC [1, 1, 0, 1, 0] (codeOf f21)) f h (contX pl21 prog J 45 n0 21 ct21 [1, 1, 0, 1, 0] (codeOf f21) [] (RetQ prog [.cell 6 26] n0 K)) :=
  loop_rule hJ mixed (b := subC [1, 1, 0, 1, 0, 0] (codeOf f21)) (by kernel_rfl) μ I hI hi
end
end Go.Proofs.Ytindillghipjjaa
namespace Go.Proofs.Ytindillghipjjaa
open Go.Conc Go.Proofs.Try
def drinkOf (t : Tro) (who : Int) : Int := if 0 ≤ who then (droAt t who.toNat).drinks else 0
def nextL (t : Tro) (who now : Int) : Int := min t.well.holds (now - min now (drinkOf t who) + t.well.fill)
def turnOf (r : List Int) (h : Nat) : Int := r.getD (h % r.length) 0
def lvl (t : Tro) (r : List Int) : Nat → Int
  | 0 => t.well.now
  | h + 1 => nextL t (turnOf r h) (lvl t r h)
def dry (t : Tro) (r : List Int) (h : Nat) : Prop := lvl t r h < drinkOf t (turnOf r h)
instance (t : Tro) (r : List Int) (h : Nat) : Decidable (dry t r h) := by unfold dry; infer_instance
structure TroFine (t : Tro) : Prop where
  holds : 1 ≤ t.well.holds ∧ t.well.holds ≤ 40
  now : 0 ≤ t.well.now ∧ t.well.now ≤ t.well.holds
  fill : 0 ≤ t.well.fill ∧ t.well.fill ≤ 20
  len : 1 ≤ t.flocks.length ∧ t.flocks.length ≤ 3
  dro : ∀ d ∈ t.flocks, droOk d
theorem troE_fine {t : Tro} (h : troE t = 0) : TroFine t := by
  obtain ⟨⟨a, b, c⟩, d, e⟩ := troE_well h
  exact ⟨a, b, c, d, e⟩
theorem fine_troE {t : Tro} (f : TroFine t) : troE t = 0 := by
  have h1 : welE t.well = 0 := by unfold welE; rw [if_pos ⟨f.holds, f.now, f.fill⟩]
  have h2 : fewE t.flocks.length 1 3 = 0 := by
    have := f.len
    unfold fewE
    rw [if_neg (by omega), if_neg (by omega)]
  unfold troE
  rw [if_neg (by omega), if_neg (by omega), if_pos f.dro]
structure RotaFine (t : Tro) (r : List Int) : Prop where
  len : 1 ≤ r.length ∧ r.length ≤ 5
  who : ∀ n ∈ r, -1 ≤ n ∧ n < t.flocks.length
section
variable {t x : Tro} {r : List Int} {h k a b : Nat}
theorem droAt_mem {i : Nat} (hi : i < t.flocks.length) : droAt t i = t.flocks[i] := by
  unfold droAt
  rw [List.getD_eq_getElem?_getD, List.getElem?_eq_getElem hi]
  rfl
theorem drink_bd (f : TroFine t) (who : Int) : 0 ≤ drinkOf t who ∧ drinkOf t who ≤ 40 := by
  unfold drinkOf
  split
  · rcases Nat.lt_or_ge who.toNat t.flocks.length with hi | hi
    · rw [droAt_mem hi]
      have := (f.dro _ (List.getElem_mem hi)).1
      omega
    · unfold droAt
      rw [List.getD_eq_getElem?_getD, List.getElem?_eq_none hi]
      exact ⟨Int.le_refl _, by decide⟩
  · omega
theorem turnOf_mem (hr : r ≠ []) (h : Nat) : turnOf r h ∈ r := by
  have hp : 0 < r.length := by cases r <;> simp at hr ⊢
  have := Nat.mod_lt h hp
  unfold turnOf
  rw [List.getD_eq_getElem?_getD, List.getElem?_eq_getElem this]
  exact List.getElem_mem this
theorem nextL_bd (f : TroFine t) {who now : Int} (h0 : 0 ≤ now) (h1 : now ≤ t.well.holds) : 0 ≤ nextL t who now ∧ nextL t who now ≤ t.well.holds := by
  have := drink_bd f who
  have := f.holds
  have := f.fill
  unfold nextL
  omega
theorem lvl_bd (f : TroFine t) : ∀ h : Nat, 0 ≤ lvl t r h ∧ lvl t r h ≤ t.well.holds
  | 0 => f.now
  | h + 1 => nextL_bd f (lvl_bd f h).1 (lvl_bd f h).2
theorem turnOf_congr (hm : a % r.length = b % r.length) (k : Nat) : turnOf r (a + k) = turnOf r (b + k) := by
  unfold turnOf
  rw [Nat.add_mod a, Nat.add_mod b, hm]
theorem lvl_congr (hl : lvl t r a = lvl t r b) (hm : a % r.length = b % r.length) : ∀ k : Nat, lvl t r (a + k) = lvl t r (b + k)
  | 0 => hl
  | k + 1 => by
    show nextL t (turnOf r (a + k)) (lvl t r (a + k)) = nextL t (turnOf r (b + k)) (lvl t r (b + k))
    rw [lvl_congr hl hm k, turnOf_congr hm k]
theorem dry_congr (hl : lvl t r a = lvl t r b) (hm : a % r.length = b % r.length) (k : Nat) : dry t r (a + k) ↔ dry t r (b + k) := by
  unfold dry
  rw [lvl_congr hl hm k, turnOf_congr hm k]
theorem dry_back {i j : Nat} (hij : i < j) (hl : lvl t r i = lvl t r j) (hm : i % r.length = j % r.length) (hn : ∀ h, h < j → ¬ dry t r h) : ∀ h, ¬ dry t r h := by
  intro h
  induction h using Nat.strongRecOn with
  | ind h ih =>
    rcases Nat.lt_or_ge h j with x | x
    · exact hn h x
    · have := dry_congr hl hm (h - j)
      rw [show j + (h - j) = h from by omega] at this
      rw [← this]
      exact ih _ (by omega)
theorem pigeon : ∀ (N : Nat) (f : Nat → Nat), (∀ i, i ≤ N → f i < N) → ∃ i j, i < j ∧ j ≤ N ∧ f i = f j
  | 0, f, hf => absurd (hf 0 (Nat.le_refl _)) (Nat.not_lt_zero _)
  | N + 1, f, hf => by
    by_cases hx : ∃ i, i ≤ N ∧ f i = f (N + 1)
    · obtain ⟨i, hi, e⟩ := hx
      exact ⟨i, N + 1, by omega, Nat.le_refl _, e⟩
    · obtain ⟨i, j, h1, h2, h3⟩ := pigeon N (fun i => if f i > f (N + 1) then f i - 1 else f i) (fun i hi => by
        have h1 := hf i (by omega)
        have h2 := hf (N + 1) (Nat.le_refl _)
        have h3 : f i ≠ f (N + 1) := fun e => hx ⟨i, hi, e⟩
        split <;> omega)
      refine ⟨i, j, h1, by omega, ?_⟩
      have n1 : f i ≠ f (N + 1) := fun e => hx ⟨i, by omega, e⟩
      have n2 : f j ≠ f (N + 1) := fun e => hx ⟨j, h2, e⟩
      split at h3 <;> split at h3 <;> omega
theorem code_inj {n a b c d : Nat} (hb : b < n) (hd : d < n) (h : a * n + b = c * n + d) : a = c ∧ b = d := by
  have h1 : (a * n + b) / n = (c * n + d) / n := by rw [h]
  have h2 : (a * n + b) % n = (c * n + d) % n := by rw [h]
  rw [Nat.mul_comm a, Nat.mul_comm c, Nat.mul_add_div (by omega), Nat.mul_add_div (by omega), Nat.div_eq_of_lt hb, Nat.div_eq_of_lt hd] at h1
  rw [Nat.mul_comm a, Nat.mul_comm c, Nat.mul_add_mod, Nat.mul_add_mod, Nat.mod_eq_of_lt hb, Nat.mod_eq_of_lt hd] at h2
  omega
theorem code_lt {n H a b : Nat} (hb : b < n) (ha : a ≤ H) : a * n + b < (H + 1) * n := by
  have := Nat.mul_le_mul_right n ha
  rw [Nat.succ_mul]
  omega
def bound (t : Tro) (r : List Int) : Nat := (t.well.holds.toNat + 1) * r.length
theorem never (f : TroFine t) (hr : r ≠ []) (hn : ∀ h, h < bound t r → ¬ dry t r h) : ∀ h, ¬ dry t r h := by
  have hp : 0 < r.length := by cases r <;> simp at hr ⊢
  obtain ⟨i, j, hij, hj, e⟩ := pigeon (bound t r) (fun h => (lvl t r h).toNat * r.length + h % r.length) (fun h _ => by
    have := lvl_bd (r := r) f h
    exact code_lt (Nat.mod_lt h hp) (by omega))
  obtain ⟨e1, e2⟩ := code_inj (Nat.mod_lt i hp) (Nat.mod_lt j hp) e
  have b1 := lvl_bd (r := r) f i
  have b2 := lvl_bd (r := r) f j
  exact dry_back hij (by omega) e2 fun h hh => hn h (by omega)
theorem bound_le (f : TroFine t) (g : r.length ≤ 5) : bound t r ≤ 205 := by
  have := f.holds
  have h2 : t.well.holds.toNat + 1 ≤ 41 := by omega
  exact Nat.mul_le_mul h2 g
def firstH (p : Nat → Prop) [DecidablePred p] : Nat → Int
  | 0 => -1
  | n + 1 => if firstH p n < 0 then (if p n then n else -1) else firstH p n
theorem firstH_neg {p : Nat → Prop} [DecidablePred p] : ∀ {n : Nat}, firstH p n < 0 → firstH p n = -1 ∧ ∀ h, h < n → ¬ p h
  | 0, _ => ⟨rfl, fun h hh => absurd hh (Nat.not_lt_zero _)⟩
  | n + 1, hl => by
    unfold firstH at hl ⊢
    split at hl
    · rename_i hx
      rw [if_pos hx]
      split at hl
      · omega
      · rename_i hp
        rw [if_neg hp]
        refine ⟨rfl, fun h hh => ?_⟩
        rcases Nat.lt_or_ge h n with y | y
        · exact (firstH_neg hx).2 h y
        · rwa [show h = n from by omega]
    · omega
theorem firstH_pos {p : Nat → Prop} [DecidablePred p] : ∀ {n : Nat}, 0 ≤ firstH p n → ∃ k : Nat, firstH p n = k ∧ k < n ∧ p k ∧ ∀ h, h < k → ¬ p h
  | 0, hl => by simp [firstH] at hl
  | n + 1, hl => by
    unfold firstH at hl ⊢
    split at hl
    · rename_i hx
      rw [if_pos hx]
      split at hl
      · rename_i hp
        rw [if_pos hp]
        exact ⟨n, rfl, by omega, hp, (firstH_neg hx).2⟩
      · simp at hl
    · rename_i hx
      rw [if_neg hx]
      obtain ⟨k, a, b, c, d⟩ := firstH_pos (p := p) (n := n) (by omega)
      exact ⟨k, a, by omega, c, d⟩
theorem firstH_at {p : Nat → Prop} [DecidablePred p] {n k : Nat} (hk : k < n) (hp : p k) (hn : ∀ h, h < k → ¬ p h) : firstH p n = k := by
  rcases Int.lt_or_le (firstH p n) 0 with x | x
  · exact absurd hp ((firstH_neg x).2 k hk)
  · obtain ⟨j, e, a, b, c⟩ := firstH_pos x
    rw [e]
    rcases Nat.lt_trichotomy j k with y | y | y
    · exact absurd b (hn j y)
    · rw [y]
    · exact absurd hp (c k y)
theorem firstH_none {p : Nat → Prop} [DecidablePred p] {n : Nat} (hn : ∀ h, h < n → ¬ p h) : firstH p n = -1 := by
  rcases Int.lt_or_le (firstH p n) 0 with x | x
  · exact (firstH_neg x).1
  · obtain ⟨j, e, a, b, c⟩ := firstH_pos x
    exact absurd b (hn j a)
def lastsR (t : Tro) (r : List Int) : Int := firstH (dry t r) (bound t r)
theorem lasts_at (f : TroFine t) (hr : r ≠ []) {k : Nat} (hp : dry t r k) (hn : ∀ h, h < k → ¬ dry t r h) : lastsR t r = k := by
  refine firstH_at ?_ hp hn
  rcases Nat.lt_or_ge k (bound t r) with x | x
  · exact x
  · exact absurd hp (never f hr (fun h hh => hn h (by omega)) k)
theorem lasts_none (hn : ∀ h, ¬ dry t r h) : lastsR t r = -1 := firstH_none fun h _ => hn h
theorem lasts_neg (f : TroFine t) (hr : r ≠ []) (h : lastsR t r < 0) : lastsR t r = -1 ∧ ∀ h, ¬ dry t r h :=
  ⟨(firstH_neg h).1, never f hr (firstH_neg h).2⟩
theorem lasts_pos (h : 0 ≤ lastsR t r) : ∃ k : Nat, lastsR t r = k ∧ k < bound t r ∧ dry t r k ∧ ∀ h, h < k → ¬ dry t r h := firstH_pos h
def occ (r : List Int) (f : Int) (i : Nat) : Prop := turnOf r i = f
instance (r : List Int) (f : Int) (i : Nat) : Decidable (occ r f i) := by unfold occ; infer_instance
def nextD (r : List Int) (f : Int) (i : Nat) : Int := firstH (fun d => occ r f (i + 1 + d)) r.length + 1
def gapG (r : List Int) (f : Int) : Nat → Int
  | 0 => 0
  | i + 1 => if occ r f i then max (gapG r f i) (nextD r f i) else gapG r f i
def gapR (r : List Int) (f : Int) : Int := gapG r f r.length
theorem occ_mod (f : Int) (i : Nat) : occ r f (i + r.length) ↔ occ r f i := by
  unfold occ turnOf
  rw [Nat.add_mod_right]
theorem nextD_spec {f : Int} {i : Nat} (hr : r ≠ []) (ho : occ r f i) : ∃ d : Nat, nextD r f i = d ∧ 1 ≤ d ∧ d ≤ r.length ∧ occ r f (i + d) ∧ ∀ e, 1 ≤ e → e < d → ¬ occ r f (i + e) := by
  have hp : 0 < r.length := by cases r <;> simp at hr ⊢
  unfold nextD
  rcases Int.lt_or_le (firstH (fun d => occ r f (i + 1 + d)) r.length) 0 with x | x
  · have := (firstH_neg x).2 (r.length - 1) (by omega)
    rw [show i + 1 + (r.length - 1) = i + r.length from by omega, occ_mod] at this
    exact absurd ho this
  · obtain ⟨k, e, a, b, c⟩ := firstH_pos x
    refine ⟨k + 1, by rw [e]; rfl, by omega, by omega, by rw [show i + (k + 1) = i + 1 + k from by omega]; exact b, fun e h1 h2 => ?_⟩
    rw [show i + e = i + 1 + (e - 1) from by omega]
    exact c (e - 1) (by omega)
theorem nextD_at {f : Int} {i d : Nat} (hr : r ≠ []) (ho : occ r f i) (h1 : 1 ≤ d) (hd : occ r f (i + d)) (hn : ∀ e, 1 ≤ e → e < d → ¬ occ r f (i + e)) : nextD r f i = d := by
  obtain ⟨k, e, a, b, c, g⟩ := nextD_spec hr ho
  rw [e]
  rcases Nat.lt_trichotomy k d with y | y | y
  · exact absurd c (hn k a y)
  · rw [y]
  · exact absurd hd (g d h1 y)
theorem nextD_mod (f : Int) (i : Nat) : nextD r f (i + r.length) = nextD r f i := by
  unfold nextD
  congr 1
  have : (fun d => occ r f (i + r.length + 1 + d)) = (fun d => occ r f (i + 1 + d)) := by
    funext d
    rw [show i + r.length + 1 + d = i + 1 + d + r.length from by omega]
    exact propext (occ_mod f _)
  simp only [this]
theorem gapG_nonneg {f : Int} : ∀ n : Nat, 0 ≤ gapG r f n
  | 0 => Int.le_refl _
  | n + 1 => by
    have := gapG_nonneg (f := f) n
    unfold gapG
    split <;> omega
theorem gapG_le {f B : Int} (hB : 0 ≤ B) : ∀ {n : Nat}, gapG r f n ≤ B ↔ ∀ i, i < n → occ r f i → nextD r f i ≤ B
  | 0 => by simp [gapG, hB]
  | n + 1 => by
    have ih : gapG r f n ≤ B ↔ ∀ i, i < n → occ r f i → nextD r f i ≤ B := gapG_le hB
    unfold gapG
    constructor
    · intro h i hi ho
      rcases Nat.lt_or_ge i n with x | x
      · refine ih.1 ?_ i x ho
        split at h <;> omega
      · have : i = n := by omega
        subst this
        rw [if_pos ho] at h
        omega
    · intro h
      have h1 := ih.2 fun i hi ho => h i (by omega) ho
      split
      · rename_i ho
        have := h n (by omega) ho
        omega
      · exact h1
theorem gapG_all {f B : Int} (hr : r ≠ []) (hB : 0 ≤ B) {n : Nat} (hn : r.length ≤ n) : gapG r f n ≤ B ↔ ∀ i, occ r f i → nextD r f i ≤ B := by
  have hp : 0 < r.length := by cases r <;> simp at hr ⊢
  rw [gapG_le hB]
  refine ⟨fun h i ho => ?_, fun h i _ ho => h i ho⟩
  induction i using Nat.strongRecOn with
  | ind i ih =>
    rcases Nat.lt_or_ge i n with x | x
    · exact h i x ho
    · have e : i = (i - r.length) + r.length := by omega
      rw [e, nextD_mod]
      rw [e, occ_mod] at ho
      exact ih (i - r.length) (by omega) ho
theorem gapG_more {f : Int} (hr : r ≠ []) {n : Nat} (hn : r.length ≤ n) : gapG r f n = gapR r f := by
  have h1 := gapG_nonneg (r := r) (f := f) n
  have h2 := gapG_nonneg (r := r) (f := f) r.length
  have a := (gapG_all hr h1 (Nat.le_refl _)).2 ((gapG_all hr h1 hn).1 (Int.le_refl _))
  have b := (gapG_all hr h2 hn).2 ((gapG_all hr h2 (Nat.le_refl _)).1 (Int.le_refl _))
  unfold gapR
  omega
theorem gapG_none {f : Int} : ∀ {n : Nat}, (∀ i, i < n → ¬ occ r f i) → gapG r f n = 0
  | 0, _ => rfl
  | n + 1, h => by
    unfold gapG
    rw [if_neg (h n (by omega))]
    exact gapG_none fun i hi => h i (by omega)
theorem gapR_le {f B : Int} (hr : r ≠ []) (hB : 0 ≤ B) : gapR r f ≤ B ↔ ∀ i, occ r f i → ∃ d : Nat, 1 ≤ d ∧ (d : Int) ≤ B ∧ occ r f (i + d) := by
  unfold gapR
  rw [gapG_all hr hB (Nat.le_refl _)]
  constructor
  · intro h i ho
    obtain ⟨d, e, a, b, c, _⟩ := nextD_spec hr ho
    have := h i ho
    exact ⟨d, a, by omega, c⟩
  · intro h i ho
    obtain ⟨d, e, a, b, c, g⟩ := nextD_spec hr ho
    obtain ⟨k, k1, k2, k3⟩ := h i ho
    rw [e]
    rcases Nat.lt_or_ge k d with y | y
    · exact absurd k3 (g k k1 y)
    · omega
theorem gapR_nonneg {f : Int} : 0 ≤ gapR r f := gapG_nonneg _
end
def unfairR (t : Tro) (r : List Int) : List Nat := (List.range t.flocks.length).filter fun i => decide (gapR r i = 0 ∨ gapR r i > (droAt t i).every)
def goodB (t : Tro) (r : List Int) : Bool := (unfairR t r).isEmpty && decide (lastsR t r < 0)
end Go.Proofs.Ytindillghipjjaa
namespace Go.Proofs.Ytindillghipjjaa
open Go.Conc Go.Proofs.Try
set_option maxRecDepth 100000
section
variable {main : Bool} {J : JT} {h H : List AObj} {K : Value → List AObj → Prop} {KV : Value → Prop} {HL : List AObj → Prop} {n0 : Nat} {ns : List Int} {k : Nat}
theorem HX.lt (a : HX h H ns k) : h.length < H.length := by
  obtain ⟨nv, k1, s, rest, rfl, _⟩ := a
  rw [hf_len]
  omega
theorem sb1 {X : List Nat} {p : Nat} {H H' : List AObj} (S : SameX X H H') (hp : p < H.length) (hX : p ∉ X) : SameB (some [p]) H H' := fun b hb => by
  simp at hb
  subst hb
  exact S.2 _ hp hX
theorem quoI {t : TypeId} {a b : Int} (ha : 0 ≤ a ∧ a ≤ 1000000) (hb : 0 < b) (hk : KV (vint (a / b))) : aBin prog .quo t (vint a) (vint b) KV := by
  have h1 : Int.tdiv a b = a / b := Int.tdiv_eq_ediv_of_nonneg ha.1
  have h2 : 0 ≤ a / b := Int.ediv_nonneg ha.1 (by omega)
  have h3 : a / b ≤ a := Int.ediv_le_self _ ha.1
  simp only [aBin, aInt, true_and]
  rw [h1, wrap64 (by omega) (by omega)]
  exact ⟨by omega, hk⟩
theorem ofX (hJ : Closed prog main J) (a : HX h H ns k) (hk : k < 1000000) {x : Int} {others : List Int} {p n c : Nat} (hp : H[p]? = some (.cells (others.map vint) true 0)) (hne : p ≠ h.length) (hn : others.length = n) (hl : n < 1000)
    (hK : ∀ y H', (y = x ∨ y ∈ others) → SameX [h.length] H H' → H'.length = H.length → HX h H' ns (k + 1) → K (vint y) H') : Good prog J 22 [ptr h.length 0, vint x, .slice (some ⟨p, 0, none⟩) n c] H K := by
  subst hn
  obtain ⟨nv, k1, s, rest, rfl, b1, b2, b3⟩ := a
  refine good22 hJ (hf_hand b3.list b3.sane (by omega) b2.1 b2.2) (others := others) (fun h' hd => ?_) (by omega) fun y h1 hy hd => ?_
  · obtain ⟨k', s', c1, c2, c3, rfl⟩ := hf_dealt hd
    have S := hf_same (h := h) (nv := nv) (k1 := k1) (k2 := k') (s1 := s) (s2 := s') (rest := rest) (g := [])
    rw [List.append_nil] at S
    exact sli_new (wr := true) (sz := 0) (S.get hp (by simpa using hne)) (by simp) (kn_ints _)
  · obtain ⟨k', s', c1, c2, c3, rfl⟩ := hf_dealt hd
    have S := hf_same (h := h) (nv := nv) (k1 := k1) (k2 := k') (s1 := s) (s2 := s') (rest := rest) (g := [])
    rw [List.append_nil] at S
    exact hK y _ hy S (by simp [hf_len]) ⟨nv, k', s', rest, rfl, by omega, ⟨c2, c3⟩, b3⟩
structure WelOk (B : Int) (w : Wel) : Prop where
  holds : 2 ≤ w.holds ∧ w.holds ≤ B ∧ w.holds ≤ 40
  now : 0 ≤ w.now ∧ w.now ≤ w.holds
  fill : 0 ≤ w.fill ∧ w.fill ≤ 6
theorem good30 (hJ : Closed prog main J) (a : HX h H ns k) (hk : k < 500000) {B : Int} (hB : 2 ≤ B ∧ B ≤ 1000)
    (hK : ∀ w H', WelOk B w → SameX [h.length] H H' → HX h H' ns (k + 5) → K w.val H') : Good prog J 30 [ptr h.length 0, vint B] H K := by
  refine g30 hJ fun ok => ?_
  rw [e30]
  have hlt := a.lt
  refine qAl fun H1 p1 e1 S1 c1 l1 => minI (maxI ?_)
  have a1 := a.same S1 (by simp)
  refine amX hJ a1 (by omega) (by omega) (by omega) fun hd H2 b1 b2 S2 l2 a2 => ?_
  refine fill_one rfl rfl rfl (by decide) (fillI ?_)
  refine qAl fun H3 p3 e3 S3 c3 l3 => qStA (c := [vint 0, vint hd, vint 0]) c3 rfl rfl rfl fun H4 S4 c4 l4 => ?_
  have a4 := (a2.same S3 (by simp)).same S4 (by simp; omega)
  refine ⟨[p3], offI (ldI (v := vint hd) c4 rfl rfl ⟨by simp [RdOk, ptrBlk, ptr], offI (ldI (v := vint hd) c4 rfl rfl ⟨by simp [RdOk, ptrBlk, ptr], ?_⟩)⟩)⟩
  have hp4 : p3 < H4.length := lt_of_get c4
  refine upX hJ a4 (by omega) (by omega) fun now H5 d1 d2 S5 l5 a5 => ⟨sb1 S5 hp4 (by simp; omega), ⟨by decide, fill_one rfl rfl rfl (by decide) (fillI (qNew fun H6 p6 e6 S6 c6 l6 => ?_))⟩⟩
  have c6 : H6[p6]? = some (.cells ([now].map vint) true 0) := c6
  have T6 : SameX [h.length] H4 H6 := S5.trans S6.weak0
  refine ⟨sb1 T6 hp4 (by simp; omega), ?_⟩
  have a6 := a5.same S6 (by simp)
  refine ofX hJ a6 (by omega) c6 (by omega) rfl (by simp) fun nw H7 m7 S7 l7 a7 => ?_
  have T7 : SameX [h.length] H4 H7 := T6.trans S7
  refine ⟨sb1 T7 hp4 (by simp; omega), offI ?_⟩
  refine upX hJ a7 (by omega) (by omega) fun f0 H8 g1 g2 S8 l8 a8 => ?_
  have T8 : SameX [h.length] H4 H8 := T7.trans S8
  refine ⟨sb1 T8 hp4 (by simp; omega), ⟨by decide, fill_one rfl rfl rfl (by decide) (fill_one rfl rfl rfl (by decide) (fill_one rfl rfl rfl (by decide) (fillI (qNew fun H9 p9 e9 S9 c9 l9 => ?_))))⟩⟩
  have c9 : H9[p9]? = some (.cells ([2, 3, f0].map vint) true 0) := c9
  have T9 : SameX [h.length] H4 H9 := T8.trans S9.weak0
  refine ⟨sb1 T9 hp4 (by simp; omega), ?_⟩
  have hh := a8.lt
  have a9 := a8.same S9 (by simp)
  refine ofX hJ a9 (by omega) c9 (by omega) rfl (by simp) fun fl H10 m10 S10 l10 a10 => ?_
  have T10 : SameX [h.length] H4 H10 := T9.trans S10
  refine ⟨sb1 T10 hp4 (by simp; omega), ?_⟩
  refine qSt (T10.get c4 (by simp; omega)) (by simp) rfl rfl fun H11 S11 c11 l11 => offI (qSt c11 (by simp) rfl rfl fun H12 S12 c12 l12 => ?_)
  refine load_part (c := [vint nw, vint hd, vint fl]) c12 (by simp) rfl rfl ?_
  have T1 : SameX [h.length] H H1 := S1.weak0
  have T4 : SameX [h.length] H H4 := ((T1.trans S2).trans S3.weak0).thru S4 (by simp; omega)
  have T12 : SameX [h.length] H H12 := ((T4.trans T10).thru S11 (by simp; omega)).thru S12 (by simp; omega)
  have c1' : H12[p1]? = some (.cells [vint 0, vint 0, vint 0] true 0) := S12.get (S11.get (T10.get (S4.get (S3.get (S2.get c1 (by simp; omega)) (by simp)) (by simp; omega)) (by simp; omega)) (by simp; omega)) (by simp; omega)
  refine qStA (c := [vint nw, vint hd, vint fl]) c1' rfl rfl rfl fun H13 S13 c13 l13 => ?_
  refine retQ_same rfl (resW_cell (gg := true) (s := 3) (by kernel_rfl) (load_part (c := [vint nw, vint hd, vint fl]) c13 (by simp) rfl rfl (resW_nil ?_)))
  refine hK ⟨nw, hd, fl⟩ H13 ⟨?_, ?_, ?_⟩ (T12.thru S13 (by simp; omega)) (((a10.same S11 (by simp; omega)).same S12 (by simp; omega)).same S13 (by simp; omega))
  · show 2 ≤ hd ∧ hd ≤ B ∧ hd ≤ 40
    omega
  · show 0 ≤ nw ∧ nw ≤ hd
    rcases m7 with rfl | m7
    · omega
    · simp at m7
      omega
  · show 0 ≤ fl ∧ fl ≤ 6
    rcases m10 with rfl | m10
    · omega
    · simp at m10
      omega
structure TroOk (F B : Int) (t : Tro) : Prop where
  well : WelOk B t.well
  len : 1 ≤ t.flocks.length ∧ (t.flocks.length : Int) ≤ F
  dro : ∀ d ∈ t.flocks, (1 ≤ d.drinks ∧ d.drinks ≤ 40) ∧ (1 ≤ d.every ∧ d.every ≤ 6)
theorem TroOk.fine {F B : Int} {t : Tro} (o : TroOk F B t) (hF : F ≤ 3) : TroFine t := by
  obtain ⟨⟨h1, h2, h3⟩, h4, h5⟩ := o
  refine ⟨by omega, h2, by omega, by omega, fun d hd => ?_⟩
  have := h5 d hd
  exact ⟨this.1, by omega⟩
structure TroO (h H : List AObj) (t : Tro) (fv : Value) (o : Option Nat) : Prop where
  fl : OwnX H 2 (t.flocks.flatMap Dro.cells) t.flocks.length fv o
  b : ∀ i, o = some i → h.length < i
theorem TroO.at {t : Tro} {fv : Value} {o : Option Nat} (a : TroO h H t fv o) : TroAt H (.agg ⟨troCells t fv⟩) t fv := ⟨rfl, ownX_sli a.fl⟩
theorem TroO.same {H' : List AObj} {t : Tro} {fv : Value} {o : Option Nat} {X : List Nat} (a : TroO h H t fv o) (S : SameX X H H') (hX : ∀ i, o = some i → i ∉ X) : TroO h H' t fv o := ⟨ownX_keep a.fl S hX, a.b⟩
theorem good21 (hJ : Closed prog main J) (a : HX h H ns k) (hk : k < 400000) {F B : Int} (hF : 1 ≤ F ∧ F ≤ 3) (hB : 2 ≤ B ∧ B ≤ 40)
    (hK : ∀ t fv o H', TroOk F B t → SameX [h.length] H H' → HX h H' ns (k + 30) → TroO h H' t fv o → K (.agg ⟨troCells t fv⟩) H') : Good prog J 21 [ptr h.length 0, vint F, vint B] H K := by
  refine g21 hJ fun ok => ?_
  rw [e21]
  have hlt := a.lt
  refine qAl fun H1 p1 e1 S1 c1 l1 => ?_
  have a1 := a.same S1 (by simp)
  refine good30 hJ a1 (by omega) (by omega) fun w H2 ow S2 a2 => ?_
  refine fill_one rfl rfl rfl (by decide) (fillI ?_)
  have hl2 := S2.1
  refine qAl fun H3 p3 e3 S3 c3 l3 => qStA (c := troCells ⟨w, []⟩ (.slice none 0 0)) c3 rfl rfl rfl fun H4 S4 c4 l4 => minI ?_
  have a4 := (a2.same S3 (by simp)).same S4 (by simp; omega)
  refine amX hJ a4 (by omega) (by omega) (by omega) fun i0 H5 b1 b2 S5 l5 a5 => ?_
  have T4 : SameX [h.length] H H4 := ((S1.weak0.trans S2).trans S3.weak0).thru S4 (by simp; omega)
  have T5 : SameX [h.length] H H5 := T4.trans S5
  have c1' : H5[p1]? = some (.cells (troCells ⟨⟨0, 0, 0⟩, []⟩ (.slice none 0 0)) true 0) := S5.get (S4.get (S3.get (S2.get c1 (by simp; omega)) (by simp)) (by simp; omega)) (by simp; omega)
  have c3' : H5[p3]? = some (.cells (troCells ⟨w, []⟩ (.slice none 0 0)) true 0) := S5.get c4 (by simp; omega)
  obtain ⟨⟨w1, w2, w3⟩, w4, w5⟩ := id ow
  refine l21_1 hJ (fun i : Nat => i) (fun i f H' => ∃ ds fv o, SameX [h.length] H H' ∧ HX h H' ns (k + 30 - 5 * i) ∧ i ≤ 3 ∧ (i0 = i + List.length ds) ∧ (∀ d ∈ ds, (1 ≤ d.drinks ∧ d.drinks ≤ 40) ∧ (1 ≤ d.every ∧ d.every ≤ 6)) ∧
      TroO h H' ⟨w, ds⟩ fv o ∧ H'[p3]? = some (.cells (troCells ⟨w, ds⟩ fv) true 0) ∧ H'[p1]? = some (.cells (troCells ⟨⟨0, 0, 0⟩, []⟩ (.slice none 0 0)) true 0) ∧ (∀ j, o = some j → j ≠ p1 ∧ j ≠ p3 ∧ H.length ≤ j) ∧ f.ds = [] ∧ f.r 0 = ptr h.length 0 ∧ f.r 6 = ptr p1 0 ∧ f.r 7 = ptr p3 0 ∧ f.r 8 = vint (i : Nat)) ?_ (s := i0.toNat)
    (.inl ⟨[], .slice none 0 0, none, T5, a5.mono (by omega), by omega, by simp; omega, by simp, ⟨⟨rfl, rfl, .inl ⟨rfl, rfl, rfl⟩⟩, by simp⟩, c3', c1', by simp, rfl, rfl, rfl, rfl, by show vint i0 = vint _; congr 1; omega⟩)
  rintro i f Hc ⟨ds, fv, o, Sc, ac, hi, hsum, hds, TO, cp3, cp1, hoj, fds, r0, r6, r7, r8⟩ okc hnc
  rw [s21_1, r0, r6, r7, r8]
  have hp3 := lt_of_get cp3
  have hp1 := lt_of_get cp1
  refine gtrI (cndI (fun hpos => ?_) fun hz => ?_)
  · have kf := (ownX_val TO.fl).2.2
    refine ⟨[p3], offI (ldI (v := fv) cp3 rfl kf ⟨by simp [RdOk, ptrBlk, ptr], offI (offI (ldI (v := vint w.holds) cp3 rfl rfl ⟨by simp [RdOk, ptrBlk, ptr], quoI (by omega) (by omega) (maxI (offI (offI (ldI (v := vint w.holds) cp3 rfl rfl ⟨by simp [RdOk, ptrBlk, ptr], ?_⟩))))⟩))⟩)⟩
    have hq : 0 ≤ w.holds / 2 ∧ w.holds / 2 ≤ w.holds := ⟨Int.ediv_nonneg (by omega) (by omega), Int.ediv_le_self _ (by omega)⟩
    refine amX hJ ac (by omega) (by omega) (by omega) fun x1 Ha q1 q2 Sa la aa => ⟨sb1 Sa hp3 (by simp; omega), ?_⟩
    refine amX hJ aa (by omega) (by omega) (by omega) fun x2 Hb q3 q4 Sb lb ab => ⟨sb1 (Sa.trans Sb) hp3 (by simp; omega), ?_⟩
    refine ⟨by decide, fill_one rfl rfl rfl (by decide) (fill_one rfl rfl rfl (by decide) (fill_one rfl rfl rfl (Nat.le_of_ble_eq_true rfl) (fillI (qNew fun Hd pd ed Sd cd ld => ?_))))⟩
    have cd : Hd[pd]? = some (.cells ([2, x1, x2].map vint) true 0) := cd
    have Td : SameX [h.length] Hc Hd := (Sa.trans Sb).trans Sd.weak0
    have hlb := ab.lt
    have ad := ab.same Sd (by simp)
    refine ⟨sb1 Td hp3 (by simp; omega), ?_⟩
    refine ofX hJ ad (by omega) cd (by omega) rfl (by simp) fun dr He me Se le ae => ⟨sb1 (Td.trans Se) hp3 (by simp; omega), ?_⟩
    refine amX hJ ae (by omega) (by omega) (by omega) fun ev Hf q5 q6 Sf lf af => ?_
    have Tf : SameX [h.length] Hc Hf := (Td.trans Se).trans Sf
    refine ⟨sb1 Tf hp3 (by simp; omega), ?_⟩
    refine fill_one rfl rfl rfl (by decide) (fill_one rfl rfl rfl (Nat.le_of_ble_eq_true rfl) (fillI ?_))
    refine ⟨by decide, fill_one (l := [vint dr, vint ev]) rfl rfl rfl (Nat.le_of_ble_eq_true rfl) (fillI (qNew fun Hg pg eg Sg cg lg => ?_))⟩
    have cg : Hg[pg]? = some (.cells [vint dr, vint ev] true 0) := cg
    have Tg : SameX [h.length] Hc Hg := Tf.trans Sg.weak0
    refine ⟨sb1 Tg hp3 (by simp; omega), ⟨by decide, ?_⟩⟩
    have TOg := TO.same Tg (fun j hj => by have := TO.b j hj; simp; omega)
    have hdl : ds.length ≤ 3 := by omega
    refine ownX_more TOg.fl (by omega) (by show ds.length < 100000; omega) (ownX_sli (ownX_new (s := 2) (n := 1) (l := [vint dr, vint ev]) cg rfl rfl)) fun fv' Hh ph eh Oh Sh => ?_
    have hlc := Tg.1
    have Th : SameX (h.length :: o.toList) Hc Hh := (Tg.weak (by simp)).trans (Sh.weak fun x hx => List.mem_cons_of_mem _ hx)
    have hno : ∀ b, b = p1 ∨ b = p3 → b ∉ o.toList := fun b hb hm => by
      have := hoj b (by simpa using hm)
      omega
    refine ⟨sb1 Th hp3 (by simp only [List.mem_cons, not_or]; exact ⟨by omega, hno p3 (.inr rfl)⟩), offI ?_⟩
    refine qSt (Th.get cp3 (by simp only [List.mem_cons, not_or]; exact ⟨by omega, hno p3 (.inr rfl)⟩)) (by simp [troCells]) (ownX_val Oh).1 (ownX_val Oh).2.1 fun Hi Si ci li => subI (by omega) ?_
    refine ⟨i - 1, by dsimp only; omega, .inl ⟨ds ++ [⟨dr, ev⟩], fv', some ph, ?_, ?_, by omega, by simp; omega, fun d hd => ?_, ⟨ownX_keep ?_ Si (by intro j hj; cases hj; simp; omega), fun j hj => by cases hj; omega⟩, ci, ?_, fun j hj => by cases hj; omega, fds, r0, r6, r7, by show vint _ = vint _; congr 1; omega⟩⟩
    · refine ((Sc.trans Tg).thru Sh ?_).thru Si (by simp; omega)
      intro y hy
      have hy' : o = some y := by simpa using hy
      exact .inr (hoj y hy').2.2
    · refine HX.mono (k := k + 30 - 5 * i + 5) (HX.same (HX.same ((af.same Sg (by simp)).mono (by omega)) Sh ?_) Si (by simp; omega)) (by omega)
      intro y hy
      exact TO.b y (by simpa using hy)
    · rcases List.mem_append.1 hd with hd | hd
      · exact hds d hd
      · have : d = ⟨dr, ev⟩ := by simpa using hd
        subst this
        refine ⟨?_, by show 1 ≤ ev ∧ ev ≤ 6; omega⟩
        show 1 ≤ dr ∧ dr ≤ 40
        rcases me with rfl | me
        · omega
        · simp at me
          omega
    · simpa [List.flatMap_append, Dro.cells] using Oh
    · exact Si.get (Th.get cp1 (by simp only [List.mem_cons, not_or]; exact ⟨by omega, hno p1 (.inl rfl)⟩)) (by simp; omega)
  · have hi0 : i = 0 := by omega
    subst hi0
    have kf := (ownX_val TO.fl).2
    have k4 : (troCells ⟨w, ds⟩ fv).all one = true ∧ kn (troCells ⟨w, ds⟩ fv) = true := ⟨tro_one TO.at, tro_kn TO.at⟩
    refine load_part (c := troCells ⟨w, ds⟩ fv) cp3 (by simp [troCells]) rfl k4.2 ?_
    refine qStA (c := troCells ⟨w, ds⟩ fv) cp1 rfl rfl k4.1 fun Hz Sz cz lz => ?_
    refine retQ_same fds (resW_cell (gg := true) (s := 4) (by kernel_rfl) ?_)
    show aLoad true 4 (f.r 6) Hz _
    rw [r6]
    refine load_part (c := troCells ⟨w, ds⟩ fv) cz (by simp [troCells]) rfl k4.2 (resW_nil ?_)
    refine hK ⟨w, ds⟩ fv o Hz ⟨ow, ?_, hds⟩ (Sc.thru Sz (by simp; omega)) ((ac.same Sz (by simp; omega)).mono (by omega)) (TO.same Sz fun j hj => by have := hoj j hj; simp; omega)
    show 1 ≤ ds.length ∧ (ds.length : Int) ≤ F
    omega
structure RotO (h H : List AObj) (r : List Int) (v : Value) (o : Option Nat) : Prop where
  l : OwnX H 1 (r.map vint) r.length v o
  b : ∀ i, o = some i → h.length < i
theorem RotO.sli {r : List Int} {v : Value} {o : Option Nat} (a : RotO h H r v o) : Sli H v 1 r.length (r.map vint) := ownX_sli a.l
theorem RotO.same {H' : List AObj} {r : List Int} {v : Value} {o : Option Nat} {X : List Nat} (a : RotO h H r v o) (S : SameX X H H') (hX : ∀ i, o = some i → i ∉ X) : RotO h H' r v o := ⟨ownX_keep a.l S hX, a.b⟩
end
def welAt (t : Tro) (r : List Int) (k : Nat) : Wel := { t.well with now := lvl t r k }
def hourC (t : Tro) (r : List Int) (k : Nat) : List Value := [vint (lvl t r k), vint (lvl t r (k + 1)), .bool (decide (dry t r k))]
def hourV (t : Tro) (r : List Int) (k : Nat) : Value := .agg ⟨hourC t r k⟩
def Till (n : Nat) (O : List Nat) (h H : List AObj) : Prop := h.length ≤ H.length ∧ ∀ i, i < n ∨ i ∈ O → H[i]? = h[i]?
section
variable {main : Bool} {J : JT} {h H : List AObj} {K : Value → List AObj → Prop} {KV : Value → Prop} {HL : List AObj → Prop} {n0 : Nat}
theorem callF {g : FuncId} {args : List Value} (hg : Nat.blt g prog.funcs.size = true) (hk : Good prog J g args H K) : callV prog (Good prog J) (.func (.func g) #[] #[]) args H K := by
  show (bif Nat.blt g prog.funcs.size then Good prog J g ([] ++ args ++ []) H K else False)
  rw [hg, cond_true, List.nil_append, List.append_nil]
  exact hk
theorem remI {t : TypeId} {a b : Nat} (ha : a < 1000000) (hb : 0 < b) (hk : KV (vint (a % b : Nat))) : aBin prog .rem t (vint (a : Nat)) (vint (b : Nat)) KV := by
  have h1 : Int.tmod (a : Int) (b : Int) = ((a % b : Nat) : Int) := by
    rw [Int.tmod_eq_emod_of_nonneg (by omega)]
    rfl
  simp only [aBin, aInt, true_and]
  rw [h1]
  exact ⟨by omega, hk⟩
theorem good120 (hJ : Closed prog main J) {t : Tro} {fv rv : Value} (ho : (troCells t fv).all one = true) (hr : rv.cells = #[rv] ∧ one rv = true)
    (hK : ∀ H' pt pr, SameX [] H H' → H'[pt]? = some (.cells (troCells t fv) true 0) → H'[pr]? = some (.cells [rv] true 0) → H.length ≤ pt → H.length ≤ pr → K (.func (.func 131) ⟨[]⟩ ⟨[ptr pt 0, ptr pr 0]⟩) H') : Good prog J 120 [.agg ⟨troCells t fv⟩, rv] H K := by
  refine g120 hJ fun ok => ?_
  rw [e120]
  refine qBox ho fun H1 p1 e1 S1 c1 l1 => qBox1 hr.1 hr.2 fun H2 p2 e2 S2 c2 l2 => ?_
  refine ⟨rfl, retL_same (by simp [unk]) (hK H2 p1 p2 (S1.trans S2) (S2.get c1 (by simp)) c2 (by omega) (by omega))⟩
theorem welAt_sm {t : Tro} {r : List Int} (f : TroFine t) (k : Nat) : (welAt t r k).sm := by
  have := lvl_bd (r := r) f k
  have := f.holds
  have := f.fill
  exact ⟨by show -1000000 ≤ lvl t r k ∧ lvl t r k ≤ 1000000; omega, by show -1000000 ≤ t.well.holds ∧ t.well.holds ≤ 1000000; omega, by show -1000000 ≤ t.well.fill ∧ t.well.fill ≤ 1000000; omega⟩
theorem welAt_step {t : Tro} {r : List Int} (k : Nat) : ((welAt t r k).drunk (drinkOf t (turnOf r k))).filled = welAt t r (k + 1) := by
  unfold Wel.drunk Wel.filled welAt
  simp only [Wel.mk.injEq, and_true]
  rfl
theorem good131 (hJ : Closed prog main J) {pt pr : Nat} {t : Tro} {r : List Int} {fv rv y : Value} (X : List Nat) (hX : ∀ x ∈ X, x < H.length) (ct : H[pt]? = some (.cells (troCells t fv) true 0)) (cr : H[pr]? = some (.cells [rv] true 0)) (nt : pt ∉ X) (nr : pr ∉ X)
    (hF : ∀ {H'}, SameX X H H' → SliE H' fv 2 Dro.cells t.flocks) (hR : ∀ {H'}, SameX X H H' → Sli H' rv 1 r.length (r.map vint)) (f : TroFine t) (g : RotaFine t r)
    {I : Nat → List Nat → List AObj → Prop} {St : List AObj → Prop} {N : Nat} (hN : N < 1000) (hlt : ∀ {k O H'}, I k O H' → k < N) (hO : ∀ {k O H'}, I k O H' → ∀ x ∈ O, x < H'.length) (hI : ∀ {k O H1 H2}, Till H.length O H1 H2 → I k O H1 → I k O H2) (h0 : I 0 [] H)
    (round : ∀ (k : Nat) (O : List Nat) (H1 : List AObj) (Q : Value → List AObj → Prop), SameX X H H1 → (∀ x ∈ O, H.length ≤ x) → I k O H1 → (∀ O' H2, SameX (X ++ O) H1 H2 → (∀ x ∈ O', x ∈ O ∨ H1.length ≤ x) → I (k + 1) O' H2 → Q (.bool true) H2) → (∀ H2, SameX (X ++ O) H1 H2 → St H2 → Q (.bool false) H2) → callV prog (Good prog J) y [vint (k : Nat), hourV t r k] H1 Q)
    (hK : ∀ H2, SameX X H H2 → St H2 → K (.tuple ⟨[]⟩) H2) : Good prog J 131 [y, ptr pt 0, ptr pr 0] H K := by
  refine g131 hJ fun ok => ?_
  rw [e131]
  have kn4 : kn1 fv = true := (sli_val (hF SameX.refl)).2.2
  have knr : kn1 rv = true := (sli_val (hR SameX.refl)).2.2
  refine offI (load_part (c := t.well.cells) ct (by simp [troCells]) rfl rfl ?_)
  refine fill_one (l := t.well.cells) rfl rfl rfl (by simp) (fillI ?_)
  refine qAl fun H1 p4 e4 S1 c1 l1 => qStA (c := (welAt t r 0).cells) c1 rfl rfl rfl fun H2 S2 c2 l2 => ?_
  have T2 : SameX X H H2 := S1.weak0.thru S2 (by simp; omega)
  have hlen := g.len
  have hrne : r ≠ [] := by intro e; rw [e] at hlen; simp at hlen
  refine l131_1 hJ (fun k : Nat => N - k) (fun k F H' => ∃ O, SameX X H H' ∧ I k O H' ∧ (∀ x ∈ O, H.length ≤ x ∧ x < H'.length ∧ x ≠ p4) ∧ H'[p4]? = some (.cells (welAt t r k).cells true 0) ∧ F.ds = [] ∧ F.r 0 = y ∧ F.r 1 = ptr pt 0 ∧ F.r 2 = ptr pr 0 ∧ F.r 4 = ptr p4 0 ∧ F.r 5 = .func (.func 82) #[] #[] ∧ F.r 6 = .func (.func 79) #[] #[] ∧ F.r 7 = vint (k : Nat)) ?_ (s := 0)
    (.inl ⟨[], T2, hI ⟨T2.1, fun i hi => by have hi : i < H.length := hi.resolve_right (by simp); rw [S2.2 i (by omega) (by simp; omega), S1.2 i hi (by simp)]⟩ h0, by simp, c2, rfl, rfl, rfl, rfl, rfl, rfl, rfl, rfl⟩)
  rintro k F Hc ⟨O, Sc, ik, iO, cp, ds, r0, r1, r2, r4, r5, r6, r7⟩ okc hnc
  have hkN := hlt ik
  have cpt := Sc.get ct nt
  have cpr := Sc.get cr nr
  have hlc := Sc.1
  have hpc := lt_of_get cp
  rw [s131_1, r1, r2, r7]
  have hmod := Nat.mod_lt k (by omega : 0 < r.length)
  have hturn : r[k % r.length]? = some (turnOf r k) := by
    unfold turnOf
    rw [List.getD_eq_getElem?_getD, List.getElem?_eq_getElem hmod]
    rfl
  have hw := g.who _ (turnOf_mem hrne k)
  -- behind the drinking
  have post : ∀ {F' : RG}, F'.ds = [] → F'.r 0 = y → F'.r 1 = ptr pt 0 → F'.r 2 = ptr pr 0 → F'.r 4 = ptr p4 0 → F'.r 5 = .func (.func 82) #[] #[] → F'.r 6 = .func (.func 79) #[] #[] → F'.r 7 = vint (k : Nat) → F'.r 8 = vint (drinkOf t (turnOf r k)) →
      W prog J 55 H.length 131 (subC [1, 1, 0, 0, 0, 0, 1, 1] (codeOf f131)) F' Hc (contX pl131 prog J 55 H.length 131 ct131 [1, 1, 0, 0, 0, 0, 1, 1] (codeOf f131) [Nx H.length (fun k : Nat => N - k) (fun k F H' => ∃ O, SameX X H H' ∧ I k O H' ∧ (∀ x ∈ O, H.length ≤ x ∧ x < H'.length ∧ x ≠ p4) ∧ H'[p4]? = some (.cells (welAt t r k).cells true 0) ∧ F.ds = [] ∧ F.r 0 = y ∧ F.r 1 = ptr pt 0 ∧ F.r 2 = ptr pr 0 ∧ F.r 4 = ptr p4 0 ∧ F.r 5 = .func (.func 82) #[] #[] ∧ F.r 6 = .func (.func 79) #[] #[] ∧ F.r 7 = vint (k : Nat)) k] (RetQ prog [] H.length K)) := by
    intro F' ds r0 r1 r2 r4 r5 r6 r7 r8
    rw [s131_2, r0, r4, r5, r6, r7, r8]
    refine offI (offI (ldI (v := vint (lvl t r k)) cp rfl rfl ?_))
    refine fill_one rfl rfl rfl (by decide) (fillI ?_)
    refine qAl fun H3 p5 e5 S3 c3 l3 => qStA (c := [vint (lvl t r k), vint 0, .bool false]) c3 rfl rfl rfl fun H4 S4 c4 l4 => ?_
    have cp4 := S4.get (S3.get cp (by simp)) (by simp; omega)
    refine load_part (c := (welAt t r k).cells) cp4 (by simp [Wel.cells]) rfl rfl ?_
    have hdb := drink_bd f (turnOf r k)
    refine callF (by kernel_rfl) (good82 hJ (w := welAt t r k) (welAt_sm f k) (by omega) (vext0 (vext1 ?_)))
    refine qStA (c := ((welAt t r k).drunk (drinkOf t (turnOf r k))).cells) cp4 rfl rfl rfl fun H5 S5 c5 l5 => offI ?_
    have hdry : Value.bool (decide ((welAt t r k).now < drinkOf t (turnOf r k))) = Value.bool (decide (dry t r k)) := rfl
    rw [hdry]
    refine qSt (S5.get c4 (by simp; omega)) (by simp) rfl rfl fun H6 S6 c6 l6 => ?_
    have c56 := S6.get c5 (by simp; omega)
    refine load_part (c := ((welAt t r k).drunk (drinkOf t (turnOf r k))).cells) c56 (by simp [Wel.cells]) rfl rfl ?_
    refine callF (by kernel_rfl) (good79 hJ (w := (welAt t r k).drunk (drinkOf t (turnOf r k))) ?_ ?_)
    · obtain ⟨a, b, c⟩ := welAt_sm (r := r) f k
      have := lvl_bd (r := r) f k
      refine ⟨?_, b, c⟩
      show -1000000 ≤ lvl t r k - min (lvl t r k) (drinkOf t (turnOf r k)) ∧ lvl t r k - min (lvl t r k) (drinkOf t (turnOf r k)) ≤ 1000000
      have := f.holds
      omega
    rw [welAt_step]
    refine qStA (c := (welAt t r (k + 1)).cells) c56 rfl rfl rfl fun H7 S7 c7 l7 => offI (offI (ldI (v := vint (lvl t r (k + 1))) c7 rfl rfl (offI ?_)))
    refine qSt (S7.get c6 (by simp; omega)) (by simp) rfl rfl fun H8 S8 c8 l8 => ?_
    refine load_part (c := hourC t r k) c8 (by simp [hourC]) rfl rfl ?_
    have T8 : SameX [p4] Hc H8 := (((((SameX.refl (X := [p4])).trans S3.weak0).thru S4 (by simp; omega)).trans S5).thru S6 (by simp; omega)).trans S7 |>.thru S8 (by simp; omega)
    have S8' : SameX X H H8 := Sc.thru T8 (by simp; omega)
    have c78 := S8.get c7 (by simp; omega)
    have nO : p4 ∉ X ++ O := by
      intro hm
      rcases List.mem_append.1 hm with hm | hm
      · have := hX _ hm
        omega
      · exact (iO _ hm).2.2 rfl
    have hY : ∀ y ∈ X ++ O, y ∈ X ∨ H.length ≤ y := fun y hm => (List.mem_append.1 hm).imp id fun hm => (iO y hm).1
    have hl8 := T8.1
    refine round k O H8 _ S8' (fun x hx => (iO x hx).1) (hI ⟨T8.1, fun i hi => T8.2 i (by rcases hi with hi | hi; omega; exact (iO i hi).2.1) (by
      rcases hi with hi | hi
      · simp
        omega
      · simpa using (iO i hi).2.2)⟩ ik) (fun O' H9 S9 hO' i9 => notI (cnd_false.2 (addI (by omega) ?_))) fun H9 S9 st => notI (cnd_true.2 ?_)
    · refine ⟨k + 1, by dsimp only; omega, .inl ⟨O', S8'.thru S9 hY, i9, fun x hx => ?_, S9.get c78 nO, ds, r0, r1, r2, r4, r5, r6, by show vint _ = vint _; congr 1⟩⟩
      have h9 := hO i9 x hx
      rcases hO' x hx with hm | hm
      · exact ⟨(iO x hm).1, h9, (iO x hm).2.2⟩
      · exact ⟨by omega, h9, by omega⟩
    · rw [ds]
      exact retL_same (by simp) (hK H9 (S8'.thru S9 hY) st)
  refine ldI (v := rv) cpr rfl knr (ldI (v := rv) cpr rfl knr (lenI (hR Sc) (remI (by omega) (by omega) ?_)))
  refine sli_num' (hR Sc) hturn fun q => geqI (cndI (fun hge => ?_) fun hlt0 => hold.2 ?_)
  · have hwl : (turnOf r k).toNat < t.flocks.length := by omega
    refine offI (ldI (v := fv) cpt rfl kn4 ?_)
    obtain ⟨b, o, cs, wr, sz, hidx, hb, hol, hft, hkn⟩ := sliE_elem dro_len (by omega) (hF Sc) hwl
    have e : vint (turnOf r k) = vint ((turnOf r k).toNat : Nat) := by congr 1; omega
    rw [e]
    have hd : drinkOf t (turnOf r k) = t.flocks[(turnOf r k).toNat].drinks := by
      unfold drinkOf
      rw [if_pos hge, droAt_mem hwl]
    refine hidx _ (offI (ldI (v := vint (drinkOf t (turnOf r k))) hb (part_get hft (by rw [hd]; rfl)) rfl (hold.2 ?_)))
    exact post ds r0 r1 r2 r4 r5 r6 r7 rfl
  · refine post ds r0 r1 r2 r4 r5 r6 r7 ?_
    show vint 0 = vint _
    unfold drinkOf
    rw [if_neg hlt0]
theorem hour_one {t : Tro} {r : List Int} {k : Nat} : (hourC t r k).all one = true ∧ kn (hourC t r k) = true := ⟨rfl, rfl⟩
theorem retL_def {n0 n : Nat} {vs : List Value} (hd : h[n]? = some .deferred) (hv : ∀ v ∈ vs, v ≠ unk) (hk : K (pack vs) (h.set n .dead)) : retL n0 K [n] vs h := by
  have := retL_same (n0 := n0) (H := K) hv hk
  unfold retL at *
  exact ⟨hd, this⟩
end
theorem rotaE_fine {t : Tro} {r : List Int} (h : rotaE t r = 0) : TroFine t ∧ RotaFine t r := by
  unfold rotaE at h
  split at h
  · rename_i x
    exact absurd h x
  · rename_i x
    split at h
    · rename_i y
      exact absurd h y
    · rename_i y
      split at h
      · rename_i z
        refine ⟨troE_fine (by omega), ?_, fun k hk => by have := z k hk; omega⟩
        unfold fewE at y
        split at y
        · exact absurd (by decide) y
        · split at y
          · exact absurd (by decide) y
          · omega
      · cases h
theorem fine_rotaE {t : Tro} {r : List Int} (f : TroFine t) (g : RotaFine t r) : rotaE t r = 0 := by
  have h1 := fine_troE f
  have h2 : fewE r.length 1 5 = 0 := by
    have := g.len
    unfold fewE
    rw [if_neg (by omega), if_neg (by omega)]
  unfold rotaE
  rw [if_neg (by omega), if_neg (by omega), if_pos fun k hk => by have := g.who k hk; omega]
def levelsR (t : Tro) (r : List Int) (n : Nat) : List Int := (List.range n).map fun i => lvl t r (i + 1)
def dryR (t : Tro) (r : List Int) (n : Nat) : List Int := ((List.range n).filter fun i => decide (dry t r i)).map Int.ofNat
theorem levelsR_succ {t : Tro} {r : List Int} {n : Nat} : levelsR t r (n + 1) = levelsR t r n ++ [lvl t r (n + 1)] := by
  simp [levelsR, List.range_succ]
theorem dryR_succ {t : Tro} {r : List Int} {n : Nat} : dryR t r (n + 1) = if dry t r n then dryR t r n ++ [(n : Int)] else dryR t r n := by
  unfold dryR
  rw [List.range_succ, List.filter_append]
  by_cases h : dry t r n
  · simp [h]
  · simp [h]
theorem dryR_len {t : Tro} {r : List Int} (n : Nat) : (dryR t r n).length ≤ n := by
  unfold dryR
  rw [List.length_map]
  have := List.length_filter_le (fun i => decide (dry t r i)) (List.range n)
  simpa using this
section
variable {main : Bool} {J : JT} {h H : List AObj} {K : Value → List AObj → Prop} {KV : Value → Prop} {n0 : Nat}
theorem ownX_to {H' : List AObj} {s len : Nat} {cs : List Value} {v : Value} {o : Option Nat} (ho : OwnX H s cs len v o) (e : ∀ i, o = some i → H'[i]? = H[i]?) : OwnX H' s cs len v o := by
  obtain ⟨h1, h2, h3 | ⟨i, c, sz, rfl, h4, h5, h6⟩⟩ := ho
  · exact ⟨h1, h2, .inl h3⟩
  · exact ⟨h1, h2, .inr ⟨i, c, sz, rfl, h4, by rw [e i rfl]; exact h5, h6⟩⟩
def GrowI (po : Nat) (L : Nat → List Int) (k : Nat) (O : List Nat) (H : List AObj) : Prop :=
  ∃ lv o, O = Option.toList o ∧ H[po]? = some (.cells [lv] true 0) ∧ OwnX H 1 ((L k).map vint) (L k).length lv o ∧ (∀ i, o = some i → i ≠ po) ∧ (L k).length ≤ k
theorem GrowI.lt {po k : Nat} {L : Nat → List Int} {O : List Nat} (a : GrowI po L k O H) : ∀ x ∈ O, x < H.length := by
  obtain ⟨lv, o, rfl, c, A, ho, hl⟩ := a
  intro x hx
  exact ownX_lt A x (by simpa using hx)
theorem GrowI.to {po k n : Nat} {L : Nat → List Int} {O : List Nat} {H1 H2 : List AObj} (hp : po < n) (T : Till n O H1 H2) (a : GrowI po L k O H1) : GrowI po L k O H2 := by
  obtain ⟨lv, o, rfl, c, A, ho, hl⟩ := a
  exact ⟨lv, o, rfl, by rw [T.2 po (.inl hp)]; exact c, ownX_to A fun i hi => T.2 i (.inr (by simpa using hi)), ho, hl⟩
end
theorem dryR_get {t : Tro} {r : List Int} {i : Nat} (hd : dry t r i) : ∀ {n : Nat}, i < n → (dryR t r n)[(dryR t r i).length]? = some (i : Int)
  | 0, h => absurd h (Nat.not_lt_zero _)
  | n + 1, h => by
    rw [dryR_succ]
    rcases Nat.lt_or_ge i n with x | x
    · have ih := dryR_get hd x
      split
      · rw [List.getElem?_append_left (List.getElem?_eq_some_iff.1 ih).1]
        exact ih
      · exact ih
    · have : i = n := by omega
      subst this
      rw [if_pos hd, List.getElem?_append_right (Nat.le_refl _)]
      simp
def metP (t : Tro) (r : List Int) (k : Nat) : Int × Int := (lvl t r k, ((k % r.length : Nat) : Int))
def metV (p : Int × Int) : Value := .agg ⟨[vint p.1, vint p.2]⟩
def metL (t : Tro) (r : List Int) (k : Nat) : List (Int × Int) := (List.range k).map (metP t r)
def metE (l : List (Int × Int)) : List (Value × Value) := l.map fun p => (metV p, .bool true)
theorem metL_succ {t : Tro} {r : List Int} {k : Nat} : metL t r (k + 1) = metL t r k ++ [metP t r k] := by simp [metL, List.range_succ]
theorem teqM (a b c d : Int) : teq prog 10000 136 (.agg ⟨[vint a, vint b]⟩) (.agg ⟨[vint c, vint d]⟩) =
    (match some (a == c) with
    | some true => (match some (b == d) with
      | some true => some true
      | some false => some false
      | none => none)
    | some false => some false
    | none => none) := by kernel_rfl
theorem teqM2 (p q : Int × Int) : teq prog 10000 136 (metV p) (metV q) = some (decide (p = q)) := by
  obtain ⟨a, b⟩ := p
  obtain ⟨c, d⟩ := q
  unfold metV
  rw [teqM]
  by_cases e1 : a = c
  · by_cases e2 : b = d
    · simp [e1, e2]
    · rw [beq_eq_false_iff_ne.2 e2, beq_iff_eq.2 e1]
      simp [e2]
  · rw [beq_eq_false_iff_ne.2 e1]
    simp [e1]
theorem met_find (p : Int × Int) : ∀ l : List (Int × Int), mfind prog 136 (metV p) (metE l) = if p ∈ l then some (some (.bool true)) else some none
  | [] => rfl
  | q :: l => by
    have ih := met_find p l
    show (match teq prog 10000 136 (metV p) (metV q) with
      | some true => some (some (Value.bool true))
      | some false => mfind prog 136 (metV p) (metE l)
      | none => none) = _
    rw [teqM2]
    by_cases h : p = q
    · simp [h]
    · rw [decide_eq_false h]
      simp only [ih, List.mem_cons, h, false_or]
theorem met_key (p : Int × Int) : kOk prog 10000 136 (metV p) = true := by kernel_rfl
section
variable {main : Bool} {J : JT} {h H : List AObj} {K : Value → List AObj → Prop} {KV : Value → Prop} {HL : List AObj → Prop} {n0 : Nat}
theorem met_look {b : Nat} {l : List (Int × Int)} {wr : Bool} {p : Int × Int} (hb : h[b]? = some (.map (metE l) wr)) (hk : KV (.bool (decide (p ∈ l)))) : aLook prog 134 false (.map (some b)) (metV p) h KV := by
  have e1 : prog.underlying 134 = some (.map 136 4) := by kernel_rfl
  have e2 : zv1 prog 4 = some (.bool false) := by kernel_rfl
  unfold aLook
  rw [e1]
  simp only
  rw [hb, e2]
  simp only
  rw [met_find]
  by_cases hm : p ∈ l
  · rw [if_pos hm]
    rw [decide_eq_true hm] at hk
    exact ⟨met_key p, hk⟩
  · rw [if_neg hm]
    rw [decide_eq_false hm] at hk
    exact ⟨met_key p, hk⟩
theorem met_upd {b : Nat} {l : List (Int × Int)} {p : Int × Int} (hb : h[b]? = some (.map (metE l) true)) (hm : p ∉ l) (hk : HL (h.set b (.map (metE (l ++ [p])) true))) : aUpd prog 134 (.map (some b)) (metV p) (.bool true) h HL := by
  have e1 : prog.underlying 134 = some (.map 136 4) := by kernel_rfl
  unfold aUpd
  rw [e1]
  simp only
  rw [hb]
  have e : metE (l ++ [p]) = metE l ++ [(metV p, .bool true)] := by simp [metE]
  rw [e] at hk
  refine ⟨met_key p, by simp [metV, VOk, AOk, LOk], ?_, hk⟩
  rw [met_find, if_neg hm]
theorem endQ_exit {n id : Nat} {f : RG} {Q : QT} {v : Value} {st : LoopState} {fn : FuncId} {r : Nat → Value} {size : Nat} {params : Array Tmp} {assign body : Code} {dfr : Nat} (hl : h[n + 1]? = some (.loop st (some (.exit id)) fn r size params assign body dfr)) (hs : st ≠ .busy) (hq : Q (.exit id) ⟨f.r, n :: f.ds⟩ (h.set (n + 1) .dead)) : endQ n f Q v h :=
  ⟨st, some (.exit id), _, _, _, _, _, _, _, hl, hs, hq⟩
noncomputable abbrev lp89 (st : LoopState) (pend : Option Code) (r : Nat → Value) (d : Nat) : AObj := .loop st pend 89 r 34 #[14, 15] (subC [1, 0, 1, 1, 1, 0, 1, 0, 0] (codeOf f89)) (subC [1, 0, 1, 1, 1, 0, 1, 0, 1] (codeOf f89)) d
theorem round89 (hJ : Closed prog main J) {l p3 p5 p6 pm d k : Nat} {R : Nat → Value} {rv : Value} {t : Tro} {r : List Int} {L : List (Int × Int)} {Q : Value → List AObj → Prop} (hl : H[l]? = some (lp89 .ready none R d))
    (r3 : R 3 = ptr p3 0) (r5 : R 5 = ptr p5 0) (r6 : R 6 = ptr p6 0) (c3 : H[p3]? = some (.cells [rv] true 0)) (c5 : H[p5]? = some (.cells [.map (some pm)] true 0)) (cm : H[pm]? = some (.map (metE L) true)) (c6 : H[p6]? = some (.cells [vint (-1)] true 0))
    (hr : Sli H rv 1 r.length (r.map vint)) (hlen : 0 < r.length) (hk : k < 1000000)
    (n3 : p3 ≠ l) (n5 : p5 ≠ l) (nm : pm ≠ l) (n6 : p6 ≠ l) (n36 : p3 ≠ p6) (nm6 : pm ≠ p6)
    (k1 : ∀ H', ¬ dry t r k → metP t r k ∉ L → SameX [l, pm] H H' → H'[l]? = some (lp89 .ready none R d) → H'[pm]? = some (.map (metE (L ++ [metP t r k])) true) → Q (.bool true) H')
    (k2 : ∀ H', ¬ dry t r k → metP t r k ∈ L → SameX [l] H H' → H'[l]? = some (lp89 .done (some (.exit 0)) R d) → Q (.bool false) H')
    (k3 : ∀ H', dry t r k → SameX [l, p6] H H' → H'[l]? = some (lp89 .done (some (.exit 0)) R d) → H'[p6]? = some (.cells [vint (k : Nat)] true 0) → Q (.bool false) H') :
    callV prog (Good prog J) (.func (.yield l) ⟨[]⟩ ⟨[]⟩) [vint (k : Nat), hourV t r k] H Q := by
  show Good prog J (yid prog l) [vint (k : Nat), hourV t r k] H Q
  have hll := lt_of_get hl
  have kr := (sli_val hr).2.2
  have hmb : mapBlk rv = none := by
    obtain ⟨base, c, hrv, _⟩ := id hr
    rw [hrv]
    rfl
  have h3l := lt_of_get c3
  have h5l := lt_of_get c5
  have h6l := lt_of_get c6
  have hml := lt_of_get cm
  refine good_round hJ hl rfl (by decide) fun ok => W_sound hJ mixed _ ?_
  rw [a89_1]
  refine qAl fun H1 p1 e1 S1 c1 l1 => qStA (c := hourC t r k) c1 rfl rfl hour_one.1 fun H2 S2 c2 l2 => ?_
  have hl2 : H2[l]? = some (lp89 .ready none R d) := S2.get (S1.get hl (by simp)) (by simp; omega)
  refine ⟨rfl, none, _, _, _, _, _, _, _, hl2, W_sound hJ mixed _ ?_⟩
  rw [b89_1]
  have S02 : SameX [] H H2 := S1.thru S2 (by simp; omega)
  have hl3 : (H2.set l (lp89 .busy none R d))[l]? = some (lp89 .busy none R d) := List.getElem?_set_self (lt_of_get hl2)
  have S3 : SameX [l] H (H2.set l (lp89 .busy none R d)) := (S02.weak0).set (.inl (by simp))
  have cx3 : (H2.set l (lp89 .busy none R d))[p1]? = some (.cells (hourC t r k) true 0) := get_set c2 (by omega)
  generalize H2.set l (lp89 .busy none R d) = H3 at hl3 S3 cx3
  have hs3 := S3.1
  have hx3 := lt_of_get cx3
  refine ⟨[p1, p3], ?_⟩
  show aOff (ptr p1 0) 0 _
  refine offI (ldI (v := vint (lvl t r k)) cx3 rfl rfl ⟨by simp [RdOk, ptrBlk, ptr], ?_⟩)
  show aLoad false 1 (R 3) _ _
  rw [r3]
  have hr3 : Sli H3 rv 1 r.length (r.map vint) := by
    obtain ⟨base, c, hrv, hc, hb⟩ := id hr
    refine ⟨base, c, hrv, hc, ?_⟩
    rcases hb with hb | ⟨b, o, hb, hb2 | ⟨cs, wr, sz, hb2, hb3⟩⟩
    · exact .inl hb
    · exact .inr ⟨b, o, hb, .inl hb2⟩
    · refine .inr ⟨b, o, hb, .inr ⟨cs, wr, sz, S3.get hb2 ?_, hb3⟩⟩
      simp only [List.mem_singleton]
      intro e
      subst e
      rw [hl] at hb2
      cases hb2
  refine ldI (v := rv) (S3.get c3 (by simpa using n3)) rfl kr ⟨?_, lenI hr3 ⟨by rw [hmb]; trivial, ?_⟩⟩
  · show RdOk (some [p1, p3]) (ptrBlk (R 3))
    rw [r3]
    simp [RdOk, ptrBlk, ptr]
  show aBin prog .rem 3 (vint (k : Nat)) (vint (r.length : Nat)) _
  refine remI hk hlen ?_
  refine fill_one rfl rfl rfl (by decide) (fill_one rfl rfl rfl (Nat.le_of_ble_eq_true rfl) (fillI ?_))
  refine qAl fun H4 p7 e7 S4 c4 l4 => ⟨fun b hb => S4.2 b (by simp at hb; omega) (by simp), ?_⟩
  refine qStA (c := [vint (metP t r k).1, vint (metP t r k).2]) c4 rfl rfl rfl fun H5 S5 c5' l5 => ?_
  have S35 : SameX [] H3 H5 := S4.thru S5 (by simp; omega)
  have S05 : SameX [l] H H5 := S3.trans S35.weak0
  have hl5 := S35.get hl3 (by simp)
  refine offI (ldI (v := .bool (decide (dry t r k))) (S35.get cx3 (by simp)) rfl rfl ?_)
  refine cndI (fun hd => ?_) fun hd => ?_
  · show aStore 1 (R 6) (vint (k : Nat)) _ _
    rw [r6]
    refine qSt (S05.get c6 (by simpa using n6)) (by simp) rfl rfl fun H6 S6 c6' l6 => ?_
    have hl6 := S6.get hl5 (by simpa using n6.symm)
    have hl66 := lt_of_get hl6
    refine ⟨.busy, none, _, _, _, _, _, _, _, hl6, .inl (k3 _ hd ?_ (List.getElem?_set_self hl66) (get_set c6' n6))⟩
    exact ((S05.weak (by simp)).trans (S6.weak (by simp))).set (.inl (by simp))
  · show aLoad false 1 (R 5) _ _
    rw [r5]
    refine ldI (v := .map (some pm)) (S05.get c5 (by simpa using n5)) rfl rfl ?_
    refine load_part (c := [vint (metP t r k).1, vint (metP t r k).2]) c5' (by simp) rfl rfl ?_
    have cm5 := S05.get cm (by simpa using nm)
    refine met_look (p := metP t r k) cm5 (cndI (fun hm => ?_) fun hm => ?_)
    · have hl55 := lt_of_get hl5
      refine ⟨.busy, none, _, _, _, _, _, _, _, hl5, .inl (k2 _ hd hm (S05.set (.inl (by simp))) (List.getElem?_set_self hl55))⟩
    · show aLoad false 1 (R 5) _ _
      rw [r5]
      refine ldI (v := .map (some pm)) (S05.get c5 (by simpa using n5)) rfl rfl ?_
      refine load_part (c := [vint (metP t r k).1, vint (metP t r k).2]) c5' (by simp) rfl rfl ⟨⟨by simp [VOk], rfl⟩, ?_⟩
      refine met_upd (p := metP t r k) cm5 hm ?_
      have hm5 := lt_of_get cm5
      have hl6 : (H5.set pm (.map (metE (L ++ [metP t r k])) true))[l]? = some (lp89 .busy none R d) := get_set hl5 nm.symm
      have hl66 := lt_of_get hl6
      refine ⟨.busy, none, _, _, _, _, _, _, _, hl6, .inl (k1 _ hd hm ?_ (List.getElem?_set_self hl66) (get_set (List.getElem?_set_self hm5) nm))⟩
      exact ((S05.weak (Y := [l, pm]) (by simp)).set (.inl (by simp))).set (.inl (by simp))
theorem met_bound {t : Tro} {r : List Int} (f : TroFine t) (hp : 0 < r.length) {k : Nat} (hd : ∀ i j, i < j → j < k → metP t r i ≠ metP t r j) : k ≤ bound t r := by
  rcases Nat.lt_or_ge (bound t r) k with hk | hk
  · obtain ⟨i, j, hij, hj, e⟩ := pigeon (bound t r) (fun h => (lvl t r h).toNat * r.length + h % r.length) (fun h _ => by
      have := lvl_bd (r := r) f h
      exact code_lt (Nat.mod_lt h hp) (by omega))
    obtain ⟨e1, e2⟩ := code_inj (Nat.mod_lt i hp) (Nat.mod_lt j hp) e
    have b1 := lvl_bd (r := r) f i
    have b2 := lvl_bd (r := r) f j
    refine absurd ?_ (hd i j hij (by omega))
    unfold metP
    rw [e2, show lvl t r i = lvl t r j from by omega]
  · exact hk
theorem met_mem {t : Tro} {r : List Int} {k : Nat} {p : Int × Int} : p ∈ metL t r k ↔ ∃ i, i < k ∧ metP t r i = p := by
  simp [metL]
theorem good89 (hJ : Closed prog main J) {v fv rv : Value} {t : Tro} {r : List Int} (ht : TroAt H v t fv) (hr : Sli H rv 1 r.length (r.map vint)) (f : TroFine t) (g : RotaFine t r)
    (hK : ∀ H', SameX [] H H' → K (vint (lastsR t r)) H') : Good prog J 89 [v, rv] H K := by
  refine g89 hJ fun ok => ?_
  rw [e89, ht.val]
  have rvo := sli_val hr
  have hlen := g.len
  have hrne : r ≠ [] := by intro e; rw [e] at hlen; simp at hlen
  refine qBox (tro_one ht) fun H1 p2 e2 S1 c2 l1 => qBox1 rvo.1 rvo.2.1 fun H2 p3 e3 S2 c3 l2 => qNewM fun H3 pm em S3 cm l3 => qAl fun H4 p5 e5 S4 c5 l4 => ?_
  refine qSt c5 (by simp) rfl rfl fun H5 S5 c5 l5 => qAl fun H6 p6 e6 S6 c6 l6 => qSt c6 (by simp) rfl rfl fun H7 S7 c6 l7 => ?_
  have c5 : H5[p5]? = some (.cells [.map (some pm)] true 0) := c5
  have c6 : H7[p6]? = some (.cells [vint (-1)] true 0) := c6
  have T4 : SameX [] H H4 := ((S1.trans S2).trans S3).trans S4
  have T7 : SameX [] H H7 := (((T4.thru S5 (by have := T4.1; simp; omega)).trans S6).thru S7 (by have := T4.1; simp; omega))
  have U7 : SameX [p5, p6] H4 H7 := ((S5.weak (by simp)).trans S6.weak0).trans (S7.weak (by simp))
  have c27 : H7[p2]? = some (.cells (troCells t fv) true 0) := U7.get (S4.get (S3.get (S2.get c2 (by simp)) (by simp)) (by simp)) (by simp; omega)
  have c37 : H7[p3]? = some (.cells [rv] true 0) := U7.get (S4.get (S3.get c3 (by simp)) (by simp)) (by simp; omega)
  have cm7 : H7[pm]? = some (.map [] true) := U7.get (S4.get cm (by simp)) (by simp; omega)
  have c57 : H7[p5]? = some (.cells [.map (some pm)] true 0) := S7.get (S6.get c5 (by simp)) (by simp; omega)
  have hS1 := S1.1
  refine load_part (c := troCells t fv) c27 (by simp [troCells]) rfl (tro_kn ht) (ldI (v := rv) c37 rfl rvo.2.2 ?_)
  refine good120 hJ (tro_one ht) ⟨rvo.1, rvo.2.1⟩ fun H8 pt pr S8 ct cr gt gr => ?_
  have T8 : SameX [] H H8 := T7.trans S8
  have hT8 := S8.1
  have hT7 := T7.1
  refine l89_1 hJ (first := []) (cap := [ptr pt 0, ptr pr 0]) rfl (by decide) ?_
  obtain ⟨R, hRe⟩ : ∃ R : Nat → Value, R = (RG.p (RG.p (RG.p (RG.p (RG.p (RG.p (RG.p (RG.p (RG.p (RG.mk (regs [Value.agg ⟨troCells t fv⟩, rv]) []) 2 (ptr p2 0)) 3 (ptr p3 0)) 4 (vint 0)) 10 (.map (some pm))) 5 (ptr p5 0)) 6 (ptr p6 0)) 11 (Value.agg ⟨troCells t fv⟩)) 12 rv) 13 (Value.func (.func 131) ⟨[]⟩ ⟨[ptr pt 0, ptr pr 0]⟩)).r := ⟨_, rfl⟩
  have hl9 : (H8 ++ [AObj.deferred] ++ [lp89 .ready none R H8.length])[H8.length + 1]? = some (lp89 .ready none R H8.length) := by
    rw [List.append_assoc]
    simp
  have hd9 : (H8 ++ [AObj.deferred] ++ [lp89 .ready none R H8.length])[H8.length]? = some .deferred := by
    rw [List.append_assoc]
    simp
  have hln : (H8 ++ [AObj.deferred] ++ [lp89 .ready none R H8.length]).length = H8.length + 2 := by simp
  have S9 : SameX [] H8 (H8 ++ [AObj.deferred] ++ [lp89 .ready none R H8.length]) := SameX.refl.app.app
  have r3 : R 3 = ptr p3 0 := by subst hRe; rfl
  have r5 : R 5 = ptr p5 0 := by subst hRe; rfl
  have r6 : R 6 = ptr p6 0 := by subst hRe; rfl
  generalize hH9 : H8 ++ [AObj.deferred] ++ [lp89 .ready none R H8.length] = H9 at hl9 hd9 hln S9
  have T9 : SameX [] H H9 := T8.trans S9
  have S79 : SameX [] H7 H9 := S8.trans S9
  have cx3 := S79.get c37 (by simp)
  have cx5 := S79.get c57 (by simp)
  have cx6 := S79.get c6 (by simp)
  have cxm := S79.get cm7 (by simp)
  have q2 := lt_of_get c2
  have q3 := lt_of_get c3
  have qm := lt_of_get cm
  have q6 := lt_of_get c6
  have q5 := lt_of_get c57
  have hlp : H.length ≤ p2 := by omega
  have hY : ∀ {H'}, SameX [H8.length + 1, pm, p6] H9 H' → SameX [] H H' := fun S => T9.thru S (by simp; omega)
  have fin : ∀ {H'}, SameX [H8.length + 1, pm, p6] H9 H' → H'[p6]? = some (.cells [vint (lastsR t r)] true 0) → H'[H8.length + 1]? = some (lp89 .done (some (.exit 0)) R H8.length) → ∀ v, endQ H8.length ⟨R, []⟩ (contX pl89 prog J 34 H.length 89 ct89 [1, 0, 1, 1, 1, 0, 1, 0] (codeOf f89) [] (RetQ prog [.tmp 4] H.length K)) v H' := by
    intro H' S h6 hl v
    refine endQ_exit hl (by simp) ?_
    rw [c89_1x0]
    show aLoad false 1 (R 6) _ _
    rw [r6]
    refine ldI (v := vint (lastsR t r)) (get_set h6 (by omega)) rfl rfl ?_
    have hd' := S.get hd9 (by simp; omega)
    refine retL_def (get_set hd' (by omega)) (by simp [unk]) ?_
    exact hK _ (((hY S).set (.inr (by omega))).set (.inr (by omega)))
  have main131 : Good prog J 131 [.func (.yield (H8.length + 1)) ⟨[]⟩ ⟨[]⟩, ptr pt 0, ptr pr 0] H9 (endQ H8.length ⟨R, []⟩ (contX pl89 prog J 34 H.length 89 ct89 [1, 0, 1, 1, 1, 0, 1, 0] (codeOf f89) [] (RetQ prog [.tmp 4] H.length K))) := by
    have lpt := lt_of_get ct
    have lpr := lt_of_get cr
    refine good131 hJ [H8.length + 1, pm, p6] (by simp; omega) (S9.get ct (by simp)) (S9.get cr (by simp)) (by simp; omega) (by simp; omega) (fun S => (hY S).sli ht.fl (by simp)) (fun S => (hY S).sli hr (by simp)) f g
      (I := fun k O H' => O = [] ∧ H'[H8.length + 1]? = some (lp89 .ready none R H8.length) ∧ H'[pm]? = some (.map (metE (metL t r k)) true) ∧ H'[p6]? = some (.cells [vint (-1)] true 0) ∧ (∀ i, i < k → ¬ dry t r i) ∧ (∀ i j, i < j → j < k → metP t r i ≠ metP t r j))
      (St := fun H' => H'[H8.length + 1]? = some (lp89 .done (some (.exit 0)) R H8.length) ∧ H'[p6]? = some (.cells [vint (lastsR t r)] true 0)) (N := bound t r + 1) (by have := bound_le f g.len.2; omega) (fun hi => Nat.lt_succ_of_le (met_bound f (by omega) hi.2.2.2.2.2)) (fun hi => by rw [hi.1]; simp)
      (fun T hi => ⟨hi.1, by rw [T.2 _ (.inl (by omega))]; exact hi.2.1, by rw [T.2 _ (.inl (by omega))]; exact hi.2.2.1, by rw [T.2 _ (.inl (by omega))]; exact hi.2.2.2.1, hi.2.2.2.2⟩)
      ⟨rfl, hl9, cxm, cx6, by simp, by simp⟩ (fun k O Ha Q Sa _ hi k1 k2 => ?_) fun H' S' st => fin S' st.2 st.1 _
    obtain ⟨rfl, i1, i2, i3, i4, i5⟩ := hi
    have hkb := met_bound f (by omega) i5
    have hbl := bound_le f g.len.2
    refine round89 hJ (t := t) i1 r3 r5 r6 (Sa.get cx3 (by simp; omega)) (Sa.get cx5 (by simp; omega)) i2 i3 ((hY Sa).sli hr (by simp)) (by omega) (by omega) (by omega) (by omega) (by omega) (by omega) (by omega) (by omega) (fun Hb nd nm Sb hb1 hb2 => ?_) (fun Hb nd hm Sb hb1 => ?_) fun Hb hd Sb hb1 hb2 => ?_
    · refine k1 [] Hb (Sb.weak (by simp)) (by simp) ⟨rfl, hb1, by rw [metL_succ]; exact hb2, Sb.get i3 (by simp; omega), fun i hi => ?_, fun i j hij hj => ?_⟩
      · rcases Nat.lt_or_ge i k with x | x
        · exact i4 i x
        · rwa [show i = k from by omega]
      · rcases Nat.lt_or_ge j k with x | x
        · exact i5 i j hij x
        · have : j = k := by omega
          subst this
          intro e
          exact nm (met_mem.2 ⟨i, hij, e⟩)
    · obtain ⟨i, hik, e⟩ := met_mem.1 hm
      have hlst : lastsR t r = -1 := by
        refine lasts_none (dry_back hik ?_ ?_ i4)
        · have := congrArg Prod.fst e
          exact this
        · have := congrArg Prod.snd e
          have : ((i % r.length : Nat) : Int) = ((k % r.length : Nat) : Int) := this
          omega
      exact k2 Hb (Sb.weak (by simp)) ⟨hb1, by rw [hlst]; exact Sb.get i3 (by simp; omega)⟩
    · have hlst : lastsR t r = k := lasts_at f hrne hd i4
      exact k2 Hb (Sb.weak (by simp)) ⟨hb1, by rw [hlst]; exact hb2⟩
  subst hRe
  rw [← hH9] at main131
  exact main131
def lastA (t : Tro) (r : List Int) : Int := if rotaE t r = 0 ∧ 0 ≤ lastsR t r then lastsR t r else 0
def lastE (t : Tro) (r : List Int) : Int := if rotaE t r ≠ 0 then rotaE t r else if lastsR t r < 0 then 11 else 0
theorem good38 (hJ : Closed prog main J) {v fv rv : Value} {t : Tro} {r : List Int} (ht : TroAt H v t fv) (hr : Sli H rv 1 r.length (r.map vint)) (hl : t.flocks.length ≤ 1000000)
    (hK : ∀ H', SameX [] H H' → K (.tuple ⟨[vint (lastA t r), vint (lastE t r)]⟩) H') : Good prog J 38 [v, rv] H K := by
  refine g38 hJ fun ok => ?_
  rw [e38, ht.val]
  refine qBox (tro_one ht) fun H1 p1 e1 S1 c1 l1 => ?_
  have tk := tro_kn ht
  refine load_part (c := troCells t fv) c1 (by simp [troCells]) rfl tk (good86 hJ ⟨rfl, S1.sli ht.fl (by simp)⟩ (S1.sli hr (by simp)) hl (neqI (cndI (fun g1 => ?_) fun g1 => ?_)))
  · have e : lastE t r = rotaE t r := by unfold lastE; rw [if_pos g1]
    have e' : lastA t r = 0 := by unfold lastA; rw [if_neg fun x => g1 x.1]
    refine retL_same (by simp [unk]) ?_
    have := hK H1 S1
    rw [e, e'] at this
    exact this
  · obtain ⟨f, g⟩ := rotaE_fine (by omega : rotaE t r = 0)
    refine load_part (c := troCells t fv) c1 (by simp [troCells]) rfl tk (good89 hJ ⟨rfl, S1.sli ht.fl (by simp)⟩ (S1.sli hr (by simp)) f g fun H2 S2 => ?_)
    have T2 := S1.trans S2
    refine lssI (cndI (fun g2 => ?_) fun g2 => ?_)
    · have e : lastE t r = 11 := by unfold lastE; rw [if_neg g1, if_pos g2]
      have e' : lastA t r = 0 := by unfold lastA; rw [if_neg fun x => by have := x.2; omega]
      refine retL_same (by simp [unk]) ?_
      have := hK H2 T2
      rw [e, e'] at this
      exact this
    · have e : lastE t r = 0 := by unfold lastE; rw [if_neg g1, if_neg g2]
      have e' : lastA t r = lastsR t r := by unfold lastA; rw [if_pos ⟨by omega, by omega⟩]
      refine retL_same (by simp [unk]) ?_
      have := hK H2 T2
      rw [e, e'] at this
      exact this
end
theorem dry_first {t : Tro} {r : List Int} {k n : Nat} (hk : dry t r k) (hn : ∀ h, h < k → ¬ dry t r h) (hkn : k < n) : (dryR t r n)[0]? = some (k : Int) := by
  have h0 : dryR t r k = [] := by
    unfold dryR
    rw [List.map_eq_nil_iff, List.filter_eq_nil_iff]
    intro a ha
    simpa using hn a (by simpa using ha)
  have := dryR_get hk hkn
  rw [h0] at this
  exact this
theorem dry_nil {t : Tro} {r : List Int} {n : Nat} (hn : ∀ h, h < n → ¬ dry t r h) : dryR t r n = [] := by
  unfold dryR
  rw [List.map_eq_nil_iff, List.filter_eq_nil_iff]
  intro a ha
  simpa using hn a (by simpa using ha)
section
variable {main : Bool} {J : JT} {h H : List AObj} {K : Value → List AObj → Prop} {KV : Value → Prop} {n0 : Nat}
theorem good51 (hJ : Closed prog main J) {v fv : Value} {t : Tro} {now who : Int} (ht : TroAt H v t fv) (f : TroFine t) (h0 : 0 ≤ now ∧ now ≤ 40) (hw : -1 ≤ who ∧ who < t.flocks.length)
    (hK : ∀ H', SameX [] H H' → K (.tuple ⟨[vint (nextL t who now), .bool (decide (now < drinkOf t who))]⟩) H') : Good prog J 51 [v, vint now, vint who] H K := by
  refine g51 hJ fun ok => ?_
  rw [e51, ht.val]
  have kf := (sli_val ht.fl).2.2
  have fh := f.holds
  have ff := f.fill
  have hdk := drink_bd f who
  refine qBox (tro_one ht) fun H1 p1 e1 S1 c1 l1 => geqI (cndI (fun hge => ?_) fun hlt => ?_)
  · have hwl : who.toNat < t.flocks.length := by omega
    obtain ⟨b, o, cs, wr, sz, hidx, hb, hol, hft, hkn⟩ := sliE_elem dro_len (by omega) (S1.sli ht.fl (by simp)) hwl
    have e : vint who = vint (who.toNat : Nat) := by congr 1; omega
    have hd : drinkOf t who = t.flocks[who.toNat].drinks := by
      unfold drinkOf
      rw [if_pos hge, droAt_mem hwl]
    rw [e]
    have hx : cs[o + 0]? = some (vint (drinkOf t who)) := part_get hft (by rw [hd]; rfl)
    refine offI (ldI (v := fv) c1 rfl kf (hidx _ (offI (ldI (v := vint (drinkOf t who)) hb hx rfl (lssI ?_)))))
    refine offI (ldI (v := fv) c1 rfl kf (hidx _ (offI (ldI (v := vint (drinkOf t who)) hb hx rfl (subI (by omega) (maxI ?_))))))
    refine offI (offI (ldI (v := vint t.well.holds) c1 rfl rfl ?_))
    refine offI (offI (ldI (v := vint t.well.fill) c1 rfl rfl (addI (by omega) (minI ?_))))
    refine retL_same (by simp [unk]) ?_
    have := hK H1 S1
    rw [show nextL t who now = min t.well.holds (max 0 (now - drinkOf t who) + t.well.fill) from by unfold nextL; omega] at this
    exact this
  · have hd : drinkOf t who = 0 := by
      unfold drinkOf
      rw [if_neg hlt]
    refine offI (offI (ldI (v := vint t.well.holds) c1 rfl rfl ?_))
    refine offI (offI (ldI (v := vint t.well.fill) c1 rfl rfl (addI (by omega) (minI ?_))))
    refine retL_same (by simp [unk]) ?_
    have := hK H1 S1
    rw [show nextL t who now = min t.well.holds (now + t.well.fill) from by unfold nextL; omega, decide_eq_false (by omega : ¬ now < drinkOf t who)] at this
    exact this
end
section
variable {main : Bool} {J : JT} {h H : List AObj} {K : Value → List AObj → Prop} {KV : Value → Prop} {HL : List AObj → Prop} {n0 : Nat}
theorem good83 (hJ : Closed prog main J) {w : Wel} (hK : ∀ H', SameX [] H H' → K (vint (welE w)) H') : Good prog J 83 [.agg ⟨w.cells⟩] H K := by
  refine g83 hJ fun ok => ?_
  rw [e83]
  refine qBox (l := w.cells) rfl fun H1 p1 e1 S1 c1 l1 => ?_
  have fin : ∀ {F' : RG} {p : Prop} [Decidable p], F'.ds = [] → F'.r 20 = .bool (decide p) → (p ↔ ¬ ((1 ≤ w.holds ∧ w.holds ≤ 40) ∧ (0 ≤ w.now ∧ w.now ≤ w.holds) ∧ (0 ≤ w.fill ∧ w.fill ≤ 20))) →
      W prog J 21 H.length 83 (subC [1, 0, 1] (codeOf f83)) F' H1 (contX pl83 prog J 21 H.length 83 ct83 [1, 0, 1] (codeOf f83) [] (RetQ prog [.tmp 2] H.length K)) := by
    intro F' p _ ds r20 hp
    rw [s83_1, r20, ds]
    have e := hK H1 S1
    unfold welE at e
    refine cndI (fun h1 => retL_same (by simp [unk]) ?_) fun h1 => retL_same (by simp [unk]) ?_
    · rw [if_neg (hp.1 h1)] at e
      exact e
    · rw [if_pos (Decidable.of_not_not fun y => h1 (hp.2 y))] at e
      exact e
  refine offI (ldI (v := vint w.holds) c1 rfl rfl (good75 hJ (notI (cndN (fun g1 => hold.2 ?_) fun g1 => ?_))))
  · exact fin (p := True) rfl rfl ⟨fun _ y => g1 y.1, fun _ => trivial⟩
  refine offI (ldI (v := vint w.now) c1 rfl rfl (offI (ldI (v := vint w.holds) c1 rfl rfl (good75 hJ (notI (cndN (fun g2 => hold.2 ?_) fun g2 => ?_))))))
  · exact fin (p := True) rfl rfl ⟨fun _ y => g2 y.2.1, fun _ => trivial⟩
  refine offI (ldI (v := vint w.fill) c1 rfl rfl (good75 hJ (notI (hold.2 ?_))))
  refine fin (p := ¬ (0 ≤ w.fill ∧ w.fill ≤ 20)) rfl ?_ ⟨fun y z => y z.2.2, fun y z => y ⟨g1, g2, z⟩⟩
  show Value.bool (!decide _) = _
  rw [decide_not]
theorem good49 (hJ : Closed prog main J) {v fv : Value} {t : Tro} (ht : TroAt H v t fv) (hl : t.flocks.length ≤ 1000000) (hK : ∀ H', SameX [] H H' → K (vint (troE t)) H') : Good prog J 49 [v] H K := by
  refine g49 hJ fun ok => ?_
  rw [e49, ht.val]
  have kf := (sli_val ht.fl).2.2
  refine qBox (tro_one ht) fun H1 p1 e1 S1 c1 l1 => ?_
  refine offI (load_part (c := t.well.cells) c1 (by simp [troCells]) rfl rfl (good83 hJ fun H2 S2 => ?_))
  have T2 := S1.trans S2
  have c2 := S2.get c1 (by simp)
  have s2 : SliE H2 fv 2 Dro.cells t.flocks := T2.sli ht.fl (by simp)
  have fin : ∀ e, troE t = e → retL H.length K [] [vint e] H2 := fun e he => by
    subst he
    exact retL_same (by simp [unk]) (hK H2 T2)
  refine neqI (cndI (fun h1 => fin _ (by unfold troE; rw [if_pos h1])) fun h1 => ?_)
  refine offI (ldI (v := fv) c2 rfl kf (lenI s2 (eqlI (cndI (fun h2 => fin 7 ?_) fun h2 => ?_))))
  · unfold troE fewE
    rw [if_neg h1, if_pos (by omega : (t.flocks.length : Int) < 1), if_pos (by decide)]
  refine offI (ldI (v := fv) c2 rfl kf (lenI s2 (gtrI (cndI (fun h3 => fin 6 ?_) fun h3 => ?_))))
  · unfold troE fewE
    rw [if_neg h1, if_neg (by omega : ¬ (t.flocks.length : Int) < 1), if_pos (by omega : (t.flocks.length : Int) > 3), if_pos (by decide)]
  have hfew : ¬ fewE t.flocks.length 1 3 ≠ 0 := by
    unfold fewE
    rw [if_neg (by omega : ¬ (t.flocks.length : Int) < 1), if_neg (by omega : ¬ (t.flocks.length : Int) > 3)]
    decide
  refine l49_1 hJ (fun i : Nat => t.flocks.length - i) (fun i F H' => H' = H2 ∧ i ≤ t.flocks.length ∧ (∀ d ∈ t.flocks.take i, droOk d) ∧ F.ds = [] ∧ F.r 1 = ptr p1 0 ∧ F.r 4 = vint (i : Nat)) ?_ (s := 0)
    (.inl ⟨rfl, by omega, by simp, rfl, rfl, rfl⟩)
  rintro i F H' ⟨rfl, hi, hd, ds, r1, r4⟩ okc hnc
  rw [s49_1, r1, r4, ds]
  refine offI (ldI (v := fv) c2 rfl kf (lenI s2 (lssI (cndI (fun hlt => ?_) fun hge => fin 0 (by
    have : i = t.flocks.length := by omega
    subst this
    rw [List.take_length] at hd
    unfold troE
    rw [if_neg h1, if_neg hfew, if_pos hd])))))
  have hil : i < t.flocks.length := by omega
  obtain ⟨b, o, cs, wr, sz, hidx, hb, hol, hft, hkn⟩ := sliE_elem dro_len (by omega) s2 hil
  have hta : ∀ (x : droOk t.flocks[i]), ∀ d ∈ t.flocks.take (i + 1), droOk d := fun x d hm => by
    rw [List.take_add_one, List.getElem?_eq_getElem hil] at hm
    rcases List.mem_append.1 hm with hm | hm
    · exact hd d hm
    · have : d = t.flocks[i] := by simpa using hm
      exact this ▸ x
  have hbad : ¬ droOk t.flocks[i] → troE t = 1 := fun x => by
    unfold troE
    rw [if_neg h1, if_neg hfew, if_neg fun hall => x (hall _ (List.getElem_mem hil))]
  have last : ∀ {F' : RG} {p : Prop} [Decidable p], F'.ds = [] → F'.r 1 = ptr p1 0 → F'.r 4 = vint (i : Nat) → F'.r 43 = .bool (decide p) → (p ↔ ¬ droOk t.flocks[i]) →
      W prog J 44 H.length 49 (subC [1, 1, 1, 1, 0, 1, 0, 0, 1, 0, 0, 1] (codeOf f49)) F' H' (contX pl49 prog J 44 H.length 49 ct49 [1, 1, 1, 1, 0, 1, 0, 0, 1, 0, 0, 1] (codeOf f49) [Nx H.length (fun i : Nat => t.flocks.length - i) (fun i F H'' => H'' = H' ∧ i ≤ t.flocks.length ∧ (∀ d ∈ t.flocks.take i, droOk d) ∧ F.ds = [] ∧ F.r 1 = ptr p1 0 ∧ F.r 4 = vint (i : Nat)) i] (RetQ prog [.tmp 2] H.length K)) := by
    intro F' p _ ds r1 r4 r43 hp
    rw [s49_2, r43, r4, ds]
    refine cndI (fun h1 => fin 1 (hbad (hp.1 h1))) fun h1 => addI (by omega) ⟨i + 1, by dsimp only; omega, .inl ⟨rfl, by omega, hta (Decidable.of_not_not fun y => h1 (hp.2 y)), ds, r1, by show vint _ = vint _; congr 1⟩⟩
  refine offI (ldI (v := fv) c2 rfl kf (hidx _ (offI (ldI (v := vint t.flocks[i].drinks) hb (part_get hft rfl) rfl (good75 hJ (notI (cndN (fun g1 => hold.2 ?_) fun g1 => ?_)))))))
  · exact last (p := True) ds r1 r4 rfl ⟨fun _ y => g1 y.1, fun _ => trivial⟩
  · refine offI (ldI (v := fv) c2 rfl kf (hidx _ (offI (ldI (v := vint t.flocks[i].every) hb (part_get (j := 1) hft rfl) rfl (good75 hJ (notI (hold.2 ?_)))))))
    refine last (p := ¬ (1 ≤ t.flocks[i].every ∧ t.flocks[i].every ≤ 8)) ds r1 r4 ?_ ⟨fun y z => y z.2, fun y z => y ⟨g1, z⟩⟩
    show Value.bool (!decide _) = _
    rw [decide_not]
theorem good92 (hJ : Closed prog main J) {v fv rv : Value} {t : Tro} {r : List Int} {n : Nat} (ht : TroAt H v t fv) (hr : Sli H rv 1 r.length (r.map vint)) (f : TroFine t) (g : RotaFine t r) (hn : n ≤ 300)
    (hK : ∀ H' lv dv, SameX [] H H' → Sli H' lv 1 (levelsR t r n).length ((levelsR t r n).map vint) → Sli H' dv 1 (dryR t r n).length ((dryR t r n).map vint) → K (.tuple ⟨[lv, dv]⟩) H') : Good prog J 92 [v, rv, vint (n : Nat)] H K := by
  refine g92 hJ fun ok => ?_
  rw [e92, ht.val]
  have kf := (sli_val ht.fl).2.2
  have gl := g.len
  have fl := f.len
  have fh := f.holds
  have hrne : r ≠ [] := by intro e; rw [e] at gl; simp at gl
  refine qBox (tro_one ht) fun H1 p1 e1 S1 c1 l1 => offI (offI (ldI (v := vint t.well.now) c1 rfl rfl ?_))
  refine l92_1 hJ (fun k : Nat => n - k) (fun k F H' => ∃ lv dv o1 o2, SameX [] H1 H' ∧ k ≤ n ∧ OwnX H' 1 ((levelsR t r k).map vint) (levelsR t r k).length lv o1 ∧ OwnX H' 1 ((dryR t r k).map vint) (dryR t r k).length dv o2 ∧ (∀ i, o1 = some i → H1.length ≤ i ∧ o2 ≠ some i) ∧ (∀ i, o2 = some i → H1.length ≤ i) ∧
      F.ds = [] ∧ F.r 1 = rv ∧ F.r 2 = vint (n : Nat) ∧ F.r 3 = ptr p1 0 ∧ F.r 8 = lv ∧ F.r 9 = dv ∧ F.r 10 = vint (lvl t r k) ∧ F.r 11 = vint (k : Nat)) ?_ (s := 0)
    (.inl ⟨.slice none 0 0, .slice none 0 0, none, none, SameX.refl, by omega, ⟨rfl, rfl, .inl ⟨rfl, rfl, rfl⟩⟩, ⟨rfl, rfl, .inl ⟨rfl, rfl, rfl⟩⟩, by simp, by simp, rfl, rfl, rfl, rfl, rfl, rfl, rfl, rfl⟩)
  rintro k F H' ⟨lv, dv, o1, o2, S, hk, O1, O2, b1, b2, ds, r1, r2, r3, r8, r9, r10, r11⟩ okc hnc
  rw [s92_1, r1, r2, r3, r8, r9, r10, r11, ds]
  have T := S1.trans S
  have ct := S.get c1 (by simp)
  have st : SliE H' fv 2 Dro.cells t.flocks := T.sli ht.fl (by simp)
  have sr := T.sli hr (by simp)
  have l1k : (levelsR t r k).length = k := by simp [levelsR]
  have l2k := dryR_len (t := t) (r := r) k
  refine lssI (cndI (fun hlt => ?_) fun hge => ?_)
  · have hmod := Nat.mod_lt k (by omega : 0 < r.length)
    have hturn : r[k % r.length]? = some (turnOf r k) := by
      unfold turnOf
      rw [List.getD_eq_getElem?_getD, List.getElem?_eq_getElem hmod]
      rfl
    have hw := g.who _ (turnOf_mem hrne k)
    obtain ⟨b, o, cs, wr, sz, c, hrv, hb, hg⟩ := sli_get sr (i := ((k % r.length : Nat) : Int)) ⟨by omega, by omega⟩
    have hgi := hg (k % r.length) (vint (turnOf r k)) (by rw [List.getElem?_map, hturn]; rfl)
    have blt := lt_of_get hb
    have plt := lt_of_get ct
    have hlb := lvl_bd (r := r) f k
    have ta : TroAt H' (.agg ⟨troCells t fv⟩) t fv := ⟨rfl, st⟩
    refine ⟨[p1, b], load_part (c := troCells t fv) ct (by simp [troCells]) rfl (tro_kn ta) ⟨by simp [RdOk, ptr, ptrBlk], lenI sr ⟨by rw [hrv]; trivial, remI (by omega) (by omega) ?_⟩⟩⟩
    rw [hrv]
    refine idxI ⟨by omega, by omega⟩ ?_
    have ei : o + ((k % r.length : Nat) : Int).toNat * 1 = o + k % r.length := by omega
    rw [ei]
    refine ldI (v := vint (turnOf r k)) hb hgi rfl ⟨by simp [RdOk, ptr, ptrBlk], ?_⟩
    refine good51 hJ ta f (by omega) hw fun H2 S2 => ⟨fun x hx => S2.2 x (by rcases List.mem_cons.1 hx with rfl | hx; exact plt; rw [List.mem_singleton.1 hx]; exact blt) (by simp), ext0 (ext1 ?_)⟩
    have e1 : nextL t (turnOf r k) (lvl t r k) = lvl t r (k + 1) := rfl
    rw [e1]
    have hlS := S.1
    have hlS2 := S2.1
    refine ⟨by decide, fill_one (l := [vint (lvl t r (k + 1))]) rfl rfl rfl (by decide) (fillI (qNew fun H3 p3 e3 S3 c3 l3 => ⟨by decide, ?_⟩))⟩
    have c3 : H3[p3]? = some (.cells [vint (lvl t r (k + 1))] true 0) := c3
    have T3 := S2.trans S3
    have O1' := ownX_keep O1 T3 (by simp)
    have o1lt := ownX_lt O1'
    refine ownX_more O1' (by omega) (by omega) (ownX_sli (ownX_new (s := 1) (n := 1) (l := [vint (lvl t r (k + 1))]) c3 rfl rfl)) fun lv' H4 p4 e4 O4 S4 => ?_
    have S4' : SameX [] H1 H4 := (S.trans T3).thru S4 fun y hy => .inr (b1 y (by simpa using hy)).1
    have O2' := ownX_keep (ownX_keep O2 T3 (by simp)) S4 (fun i hi hm => (b1 i (by simpa using hm)).2 hi)
    have eL : levelsR t r (k + 1) = levelsR t r k ++ [lvl t r (k + 1)] := levelsR_succ
    have O4' : OwnX H4 1 ((levelsR t r (k + 1)).map vint) (levelsR t r (k + 1)).length lv' (some p4) := by
      rw [eL, List.map_append, List.length_append]
      exact O4
    have o2lt := ownX_lt (ownX_keep O2 T3 (by simp))
    have hd : decide (lvl t r k < drinkOf t (turnOf r k)) = decide (dry t r k) := rfl
    rw [hd]
    have hS4 := S4.1
    refine cndI (fun hdry => ?_) fun hdry => ?_
    · refine ⟨by decide, fill_one (l := [vint (k : Nat)]) rfl rfl rfl (by decide) (fillI (qNew fun H5 p5 e5 S5 c5 l5 => ⟨by decide, ?_⟩))⟩
      have c5 : H5[p5]? = some (.cells [vint (k : Nat)] true 0) := c5
      refine ownX_more (ownX_keep O2' S5 (by simp)) (by omega) (by omega) (ownX_sli (ownX_new (s := 1) (n := 1) (l := [vint (k : Nat)]) c5 rfl rfl)) fun dv' H6 p6 e6 O6 S6 => addI (by omega) ?_
      have eD : dryR t r (k + 1) = dryR t r k ++ [(k : Int)] := by rw [dryR_succ, if_pos hdry]
      have p4lt := ownX_lt O4' p4 rfl
      refine ⟨k + 1, by dsimp only; omega, .inl ⟨lv', dv', some p4, some p6, (S4'.trans S5).thru S6 (fun y hy => .inr (b2 y (by simpa using hy))), by omega, ownX_keep (ownX_keep O4' S5 (by simp)) S6 (fun i hi hm => ?_), ?_, fun i hi => ?_, fun i hi => ?_, ds, r1.trans hrv, r2, r3, rfl, rfl, rfl, by show vint _ = vint _; congr 1⟩⟩
      · cases hi
        have := o2lt p4 (by simpa using hm)
        omega
      · rw [eD, List.map_append, List.length_append]
        exact O6
      · cases hi
        have := S.1
        exact ⟨by omega, fun e => by injection e with e; omega⟩
      · cases hi
        omega
    · have eD : dryR t r (k + 1) = dryR t r k := by rw [dryR_succ, if_neg hdry]
      refine addI (by omega) ⟨k + 1, by dsimp only; omega, .inl ⟨lv', dv, some p4, o2, S4', by omega, O4', ?_, fun i hi => ?_, b2, ds, r1.trans hrv, r2, r3, rfl, r9, rfl, by show vint _ = vint _; congr 1⟩⟩
      · rw [eD]
        exact O2'
      · cases hi
        refine ⟨by omega, fun e => ?_⟩
        have := o2lt p4 e
        omega
  · have : k = n := by omega
    subst this
    refine retL_same ?_ (hK H' lv dv T (ownX_sli O1) (ownX_sli O2))
    intro x hx
    have hx : x = lv ∨ x = dv := by simpa using hx
    rcases hx with rfl | rfl
    · intro e
      have := (ownX_val O1).2.2
      rw [e] at this
      cases this
    · intro e
      have := (ownX_val O2).2.2
      rw [e] at this
      cases this
end
end Go.Proofs.Ytindillghipjjaa
namespace Go.Proofs.Ytindillghipjjaa
open Go.Conc Go.Proofs.Try
set_option maxRecDepth 100000
set_option maxHeartbeats 4000000
set_option linter.unusedVariables false
section
variable {main : Bool} {J : JT} {n0 : Nat} {h : List AObj} {K : Value → List AObj → Prop}
def pl7 : Plans := []
def ct7 : Cuts := .go
theorem pok7 : plansOk prog pl7 (codeOf f7) = true := by kernel_rfl
theorem e7 {a0 : Value} : W prog J 82 h.length 7 (codeOf f7) (RG.mk (regs [a0]) []) h (RetQ prog [.tmp 2] h.length K) =
(Good prog J 20 [a0] h fun v1 h2 =>
Good prog J 21 [v1, (vint 2), (vint 10)] h2 fun v3 h4 =>
aAlloc [(vint 0), (vint 0), (vint 0), (Value.slice none 0 0)] h4 fun v5 h6 =>
aStore 4 v5 v3 h6 fun h7 =>
aLoad true 4 v5 h7 fun v8 =>
Good prog J 39 [v8] h7 fun v9 h10 =>
aExt v9 0 fun v11 =>
aExt v9 1 fun v12 =>
Sem J 82 h.length 7 (subC [1, 1, 1, 0, 1, 0] (codeOf f7)) (RG.p (RG.p (RG.p (RG.p (RG.p (RG.p (RG.p (RG.p (RG.p (RG.p (RG.p (RG.p (RG.p (RG.mk (regs [a0]) []) 2 (Value.bool false)) 13 a0) 14 v1) 15 v3) 3 v5) 17 v8) 18 v9) 16 v9) 19 v11) 20 v12) 4 v11) 5 v12) 6 (vint 1)) h10 (contX pl7 prog J 82 h.length 7 ct7 [1, 1, 1, 0, 1, 0] (codeOf f7) [] (RetQ prog [.tmp 2] h.length K))) := top_eq pok7 ct7 (by kernel_rfl)
end
section
variable {main : Bool} {J : JT} {n0 : Nat} {h : List AObj} {K : Value → List AObj → Prop}
def pl14 : Plans := []
def ct14 : Cuts := .bin (.go) (.bin (.go) (.bin (.go) (.bin (.go) (.bin (.bin (.go) (.cut (.go))) (.bin (.bin (.go) (.un (.un (.bin (.go) (.bin (.un (.bin (.go) (.bin (.go) (.cut (.bin (.go) (.cut (.bin (.bin (.go) (.cut (.go))) (.bin (.go) (.un (.un (.bin (.go) (.bin (.un (.bin (.go) (.bin (.go) (.cut (.bin (.go) (.bin (.go) (.cut (.go)))))))) (.go))))))))))))) (.go)))))) (.go))))))
theorem pok14 : plansOk prog pl14 (codeOf f14) = true := by kernel_rfl
theorem e14 {a0 : Value} : W prog J 116 h.length 14 (codeOf f14) (RG.mk (regs [a0]) []) h (RetQ prog [.tmp 2] h.length K) =
(Good prog J 20 [a0] h fun v1 h2 =>
Good prog J 21 [v1, (vint 2), (vint 10)] h2 fun v3 h4 =>
aAlloc [(vint 0), (vint 0), (vint 0), (Value.slice none 0 0)] h4 fun v5 h6 =>
aStore 4 v5 v3 h6 fun h7 =>
aLoad true 4 v5 h7 fun v8 =>
Good prog J 55 [v8] h7 fun v9 h10 =>
aExt v9 0 fun v11 =>
aExt v9 1 fun v12 =>
aLoad true 4 v5 h10 fun v13 =>
Good prog J 57 [v13] h10 fun v14 h15 =>
aExt v14 0 fun v16 =>
aExt v14 1 fun v17 =>
aBin prog .neq 39 v12 (vint 0) fun v18 =>
cnd v18
(aBin prog .neq 39 v12 (vint 11) fun v19 =>
cnd v19
(Hold (W prog J 116 h.length 14 (subC [1, 1, 1, 1, 0, 1] (codeOf f14)) (RG.p (RG.p (RG.p (RG.p (RG.p (RG.p (RG.p (RG.p (RG.p (RG.p (RG.p (RG.p (RG.p (RG.p (RG.p (RG.p (RG.p (RG.p (RG.p (RG.p (RG.p (RG.p (RG.p (RG.p (RG.p (RG.p (RG.p (RG.p (RG.p (RG.p (RG.p (RG.p (RG.p (RG.p (RG.p (RG.mk (regs [a0]) []) 2 (Value.bool false)) 17 a0) 18 v1) 19 v3) 3 v5) 21 v8) 22 v9) 20 v9) 23 v11) 24 v12) 4 v11) 5 v12) 26 v13) 27 v14) 25 v14) 28 v16) 29 v17) 6 v16) 7 v17) 30 v12) 31 v18) 32 v18) 32 (Value.bool true)) 33 v12) 34 v19) 35 v19) 36 v19) 36 (Value.bool true)) 37 undef) 38 undef) 39 undef) 40 undef) 41 undef) 42 undef) 43 (Value.bool true)) h15 (contX pl14 prog J 116 h.length 14 ct14 [1, 1, 1, 1, 0, 1] (codeOf f14) [] (RetQ prog [.tmp 2] h.length K))))
(aBin prog .neq 39 v17 (vint 0) fun v20 =>
cnd v20
(aBin prog .neq 39 v17 (vint 11) fun v21 =>
Hold (W prog J 116 h.length 14 (subC [1, 1, 1, 1, 0, 1] (codeOf f14)) (RG.p (RG.p (RG.p (RG.p (RG.p (RG.p (RG.p (RG.p (RG.p (RG.p (RG.p (RG.p (RG.p (RG.p (RG.p (RG.p (RG.p (RG.p (RG.p (RG.p (RG.p (RG.p (RG.p (RG.p (RG.p (RG.p (RG.p (RG.p (RG.p (RG.p (RG.p (RG.p (RG.p (RG.p (RG.p (RG.p (RG.mk (regs [a0]) []) 2 (Value.bool false)) 17 a0) 18 v1) 19 v3) 3 v5) 21 v8) 22 v9) 20 v9) 23 v11) 24 v12) 4 v11) 5 v12) 26 v13) 27 v14) 25 v14) 28 v16) 29 v17) 6 v16) 7 v17) 30 v12) 31 v18) 32 v18) 32 (Value.bool true)) 33 v12) 34 v19) 35 v19) 36 v19) 36 (Value.bool false)) 37 v17) 38 v20) 39 v20) 39 (Value.bool true)) 40 v17) 41 v21) 42 v21) 43 v21) h15 (contX pl14 prog J 116 h.length 14 ct14 [1, 1, 1, 1, 0, 1] (codeOf f14) [] (RetQ prog [.tmp 2] h.length K))))
(Hold (W prog J 116 h.length 14 (subC [1, 1, 1, 1, 0, 1] (codeOf f14)) (RG.p (RG.p (RG.p (RG.p (RG.p (RG.p (RG.p (RG.p (RG.p (RG.p (RG.p (RG.p (RG.p (RG.p (RG.p (RG.p (RG.p (RG.p (RG.p (RG.p (RG.p (RG.p (RG.p (RG.p (RG.p (RG.p (RG.p (RG.p (RG.p (RG.p (RG.p (RG.p (RG.p (RG.p (RG.p (RG.p (RG.mk (regs [a0]) []) 2 (Value.bool false)) 17 a0) 18 v1) 19 v3) 3 v5) 21 v8) 22 v9) 20 v9) 23 v11) 24 v12) 4 v11) 5 v12) 26 v13) 27 v14) 25 v14) 28 v16) 29 v17) 6 v16) 7 v17) 30 v12) 31 v18) 32 v18) 32 (Value.bool true)) 33 v12) 34 v19) 35 v19) 36 v19) 36 (Value.bool false)) 37 v17) 38 v20) 39 v20) 39 (Value.bool false)) 40 undef) 41 undef) 42 (Value.bool false)) 43 (Value.bool false)) h15 (contX pl14 prog J 116 h.length 14 ct14 [1, 1, 1, 1, 0, 1] (codeOf f14) [] (RetQ prog [.tmp 2] h.length K))))))
(aBin prog .neq 39 v17 (vint 0) fun v22 =>
cnd v22
(aBin prog .neq 39 v17 (vint 11) fun v23 =>
Hold (W prog J 116 h.length 14 (subC [1, 1, 1, 1, 0, 1] (codeOf f14)) (RG.p (RG.p (RG.p (RG.p (RG.p (RG.p (RG.p (RG.p (RG.p (RG.p (RG.p (RG.p (RG.p (RG.p (RG.p (RG.p (RG.p (RG.p (RG.p (RG.p (RG.p (RG.p (RG.p (RG.p (RG.p (RG.p (RG.p (RG.p (RG.p (RG.p (RG.p (RG.p (RG.p (RG.p (RG.p (RG.p (RG.mk (regs [a0]) []) 2 (Value.bool false)) 17 a0) 18 v1) 19 v3) 3 v5) 21 v8) 22 v9) 20 v9) 23 v11) 24 v12) 4 v11) 5 v12) 26 v13) 27 v14) 25 v14) 28 v16) 29 v17) 6 v16) 7 v17) 30 v12) 31 v18) 32 v18) 32 (Value.bool false)) 33 undef) 34 undef) 35 (Value.bool false)) 36 (Value.bool false)) 36 (Value.bool false)) 37 v17) 38 v22) 39 v22) 39 (Value.bool true)) 40 v17) 41 v23) 42 v23) 43 v23) h15 (contX pl14 prog J 116 h.length 14 ct14 [1, 1, 1, 1, 0, 1] (codeOf f14) [] (RetQ prog [.tmp 2] h.length K))))
(Hold (W prog J 116 h.length 14 (subC [1, 1, 1, 1, 0, 1] (codeOf f14)) (RG.p (RG.p (RG.p (RG.p (RG.p (RG.p (RG.p (RG.p (RG.p (RG.p (RG.p (RG.p (RG.p (RG.p (RG.p (RG.p (RG.p (RG.p (RG.p (RG.p (RG.p (RG.p (RG.p (RG.p (RG.p (RG.p (RG.p (RG.p (RG.p (RG.p (RG.p (RG.p (RG.p (RG.p (RG.p (RG.p (RG.mk (regs [a0]) []) 2 (Value.bool false)) 17 a0) 18 v1) 19 v3) 3 v5) 21 v8) 22 v9) 20 v9) 23 v11) 24 v12) 4 v11) 5 v12) 26 v13) 27 v14) 25 v14) 28 v16) 29 v17) 6 v16) 7 v17) 30 v12) 31 v18) 32 v18) 32 (Value.bool false)) 33 undef) 34 undef) 35 (Value.bool false)) 36 (Value.bool false)) 36 (Value.bool false)) 37 v17) 38 v22) 39 v22) 39 (Value.bool false)) 40 undef) 41 undef) 42 (Value.bool false)) 43 (Value.bool false)) h15 (contX pl14 prog J 116 h.length 14 ct14 [1, 1, 1, 1, 0, 1] (codeOf f14) [] (RetQ prog [.tmp 2] h.length K)))))) := top_eq pok14 ct14 (by kernel_rfl)
end
section
variable {main : Bool} {J : JT} {n0 : Nat} {h : List AObj} {K : Value → List AObj → Prop}
theorem at5 : prog.funcs[5]? = some f5 := by kernel_rfl
theorem body5 : f5.body = some (codeOf f5) := by kernel_rfl
def pl5 : Plans := [(5, false, .take 0 (.take 1 (.take 2 (.take 3 (.take 4 (.take 5 (.take 6 (.take 8 (.take 9 (.take 10 (.take 11 (.last 7 true (.take 13 (.take 14 (.last 12 false (.last 15 false (.take 16 (.take 17 (.last 18 false (.fin)))))))))))))))))))),
  (14, true, .take 0 (.take 1 (.take 2 (.take 3 (.take 4 (.take 5 (.take 6 (.take 7 (.take 8 (.fin))))))))))]
def ct5 : Cuts := .bin (.go) (.bin (.go) (.bin (.go) (.bin (.go) (.bin (.go) (.bin (.go) (.bin (.go) (.bin (.go) (.bin (.go) (.bin (.bin (.go) (.cut (.go))) (.bin (.go) (.bin (.go) (.bin (.go) (.bin (.bin (.go) (.cut (.go))) (.go))))))))))))))
theorem pok5 : plansOk prog pl5 (codeOf f5) = true := by kernel_rfl
theorem e5 {a0 : Value} : W prog J 171 h.length 5 (codeOf f5) (RG.mk (regs [a0]) []) h (RetQ prog [.tmp 2] h.length K) =
(Good prog J 20 [a0] h fun v1 h2 =>
Good prog J 21 [v1, (vint 2), (vint 10)] h2 fun v3 h4 =>
aAlloc [(vint 0), (vint 0), (vint 0), (Value.slice none 0 0)] h4 fun v5 h6 =>
aStore 4 v5 v3 h6 fun h7 =>
aLoad true 4 v5 h7 fun v8 =>
Good prog J 24 [v8] h7 fun v9 h10 =>
aAlloc [(vint 0), (vint 0), (vint 0), (Value.slice none 0 0)] h10 fun v11 h12 =>
aStore 4 v11 v9 h12 fun h13 =>
aOff v5 0 fun v14 =>
aOff v14 1 fun v15 =>
aLoad false 1 v15 h13 fun v16 =>
Good prog J 33 [v1, v16, (vint 14)] h13 fun v17 h18 =>
aOff v11 0 fun v19 =>
aOff v19 1 fun v20 =>
aStore 1 v20 v17 h18 fun h21 =>
(∃ B, aOff v5 0 fun v22 =>
aOff v22 0 fun v23 =>
aLoad false 1 v23 h21 fun v24 =>
RdOk (some B) (ptrBlk v23) ∧ (aOff v11 0 fun v25 =>
aOff v25 1 fun v26 =>
aLoad false 1 v26 h21 fun v27 =>
RdOk (some B) (ptrBlk v26) ∧ (aOff v5 0 fun v28 =>
aOff v28 2 fun v29 =>
aLoad false 1 v29 h21 fun v30 =>
RdOk (some B) (ptrBlk v29) ∧ (Good prog J 33 [v1, v24, v27] h21 fun v31 h32 =>
SameB (some B) h21 h32 ∧ (aOff v11 0 fun v33 =>
aOff v33 0 fun v34 =>
Good prog J 33 [v1, v30, (vint 8)] h32 fun v35 h36 =>
aStore 1 v34 v31 h36 fun h37 =>
aOff v11 0 fun v38 =>
aOff v38 2 fun v39 =>
aStore 1 v39 v35 h37 fun h40 =>
aLoad true 4 v5 h40 fun v41 =>
Good prog J 36 [v1, v41, (vint 5)] h40 fun v42 h43 =>
aLoad true 4 v5 h43 fun v44 =>
Good prog J 37 [v44, v42, (vint 40)] h43 fun v45 h46 =>
aExt v45 0 fun v47 =>
aExt v45 1 fun v48 =>
aLoad true 4 v11 h46 fun v49 =>
Good prog J 37 [v49, v42, (vint 40)] h46 fun v50 h51 =>
aExt v50 0 fun v52 =>
aExt v50 1 fun v53 =>
aBin prog .neq 39 v48 (vint 0) fun v54 =>
cnd v54
(Hold (W prog J 171 h.length 5 (subC [1, 1, 1, 1, 1, 1, 1, 1, 1, 0, 1] (codeOf f5)) (RG.p (RG.p (RG.p (RG.p (RG.p (RG.p (RG.p (RG.p (RG.p (RG.p (RG.p (RG.p (RG.p (RG.p (RG.p (RG.p (RG.p (RG.p (RG.p (RG.p (RG.p (RG.p (RG.p (RG.p (RG.p (RG.p (RG.p (RG.p (RG.p (RG.p (RG.p (RG.p (RG.p (RG.p (RG.p (RG.p (RG.p (RG.p (RG.p (RG.p (RG.p (RG.p (RG.p (RG.p (RG.p (RG.p (RG.p (RG.p (RG.p (RG.p (RG.p (RG.p (RG.p (RG.p (RG.p (RG.p (RG.p (RG.p (RG.p (RG.p (RG.p (RG.p (RG.p (RG.p (RG.p (RG.p (RG.p (RG.p (RG.p (RG.p (RG.p (RG.p (RG.p (RG.mk (regs [a0]) []) 2 (Value.bool false)) 16 a0) 17 v1) 3 v1) 18 v1) 19 v3) 4 v5) 20 v8) 21 v9) 5 v11) 22 v1) 23 v14) 24 v15) 25 v16) 26 v17) 27 v19) 28 v20) 29 v1) 30 v22) 31 v23) 32 v24) 33 v25) 34 v26) 35 v27) 37 v1) 38 v28) 39 v29) 40 v30) 36 v31) 42 v33) 43 v34) 41 v35) 44 v38) 45 v39) 46 v1) 47 v41) 48 v42) 6 v42) 50 v44) 51 v42) 52 v45) 49 v45) 53 v47) 54 v48) 7 v47) 8 v48) 56 v49) 57 v42) 58 v50) 55 v50) 59 v52) 60 v53) 9 v52) 10 v53) 61 v48) 62 v54) 63 v54) 63 (Value.bool true)) 64 undef) 65 undef) 66 (Value.bool true)) 67 (Value.bool true)) 67 (Value.bool true)) 68 undef) 69 undef) 70 undef) 71 (Value.bool true)) 72 (Value.bool true)) 72 (Value.bool true)) 73 undef) 74 undef) 75 undef) 76 (Value.bool true)) h51 (contX pl5 prog J 171 h.length 5 ct5 [1, 1, 1, 1, 1, 1, 1, 1, 1, 0, 1] (codeOf f5) [] (RetQ prog [.tmp 2] h.length K))))
(aBin prog .neq 39 v53 (vint 0) fun v55 =>
cnd v55
(Hold (W prog J 171 h.length 5 (subC [1, 1, 1, 1, 1, 1, 1, 1, 1, 0, 1] (codeOf f5)) (RG.p (RG.p (RG.p (RG.p (RG.p (RG.p (RG.p (RG.p (RG.p (RG.p (RG.p (RG.p (RG.p (RG.p (RG.p (RG.p (RG.p (RG.p (RG.p (RG.p (RG.p (RG.p (RG.p (RG.p (RG.p (RG.p (RG.p (RG.p (RG.p (RG.p (RG.p (RG.p (RG.p (RG.p (RG.p (RG.p (RG.p (RG.p (RG.p (RG.p (RG.p (RG.p (RG.p (RG.p (RG.p (RG.p (RG.p (RG.p (RG.p (RG.p (RG.p (RG.p (RG.p (RG.p (RG.p (RG.p (RG.p (RG.p (RG.p (RG.p (RG.p (RG.p (RG.p (RG.p (RG.p (RG.p (RG.p (RG.p (RG.p (RG.p (RG.p (RG.p (RG.p (RG.mk (regs [a0]) []) 2 (Value.bool false)) 16 a0) 17 v1) 3 v1) 18 v1) 19 v3) 4 v5) 20 v8) 21 v9) 5 v11) 22 v1) 23 v14) 24 v15) 25 v16) 26 v17) 27 v19) 28 v20) 29 v1) 30 v22) 31 v23) 32 v24) 33 v25) 34 v26) 35 v27) 37 v1) 38 v28) 39 v29) 40 v30) 36 v31) 42 v33) 43 v34) 41 v35) 44 v38) 45 v39) 46 v1) 47 v41) 48 v42) 6 v42) 50 v44) 51 v42) 52 v45) 49 v45) 53 v47) 54 v48) 7 v47) 8 v48) 56 v49) 57 v42) 58 v50) 55 v50) 59 v52) 60 v53) 9 v52) 10 v53) 61 v48) 62 v54) 63 v54) 63 (Value.bool false)) 64 v53) 65 v55) 66 v55) 67 v55) 67 (Value.bool true)) 68 undef) 69 undef) 70 undef) 71 (Value.bool true)) 72 (Value.bool true)) 72 (Value.bool true)) 73 undef) 74 undef) 75 undef) 76 (Value.bool true)) h51 (contX pl5 prog J 171 h.length 5 ct5 [1, 1, 1, 1, 1, 1, 1, 1, 1, 0, 1] (codeOf f5) [] (RetQ prog [.tmp 2] h.length K))))
(aLenS v47 fun v56 =>
aBin prog .neq 3 v56 (vint 40) fun v57 =>
cnd v57
(Hold (W prog J 171 h.length 5 (subC [1, 1, 1, 1, 1, 1, 1, 1, 1, 0, 1] (codeOf f5)) (RG.p (RG.p (RG.p (RG.p (RG.p (RG.p (RG.p (RG.p (RG.p (RG.p (RG.p (RG.p (RG.p (RG.p (RG.p (RG.p (RG.p (RG.p (RG.p (RG.p (RG.p (RG.p (RG.p (RG.p (RG.p (RG.p (RG.p (RG.p (RG.p (RG.p (RG.p (RG.p (RG.p (RG.p (RG.p (RG.p (RG.p (RG.p (RG.p (RG.p (RG.p (RG.p (RG.p (RG.p (RG.p (RG.p (RG.p (RG.p (RG.p (RG.p (RG.p (RG.p (RG.p (RG.p (RG.p (RG.p (RG.p (RG.p (RG.p (RG.p (RG.p (RG.p (RG.p (RG.p (RG.p (RG.p (RG.p (RG.p (RG.p (RG.p (RG.p (RG.p (RG.p (RG.mk (regs [a0]) []) 2 (Value.bool false)) 16 a0) 17 v1) 3 v1) 18 v1) 19 v3) 4 v5) 20 v8) 21 v9) 5 v11) 22 v1) 23 v14) 24 v15) 25 v16) 26 v17) 27 v19) 28 v20) 29 v1) 30 v22) 31 v23) 32 v24) 33 v25) 34 v26) 35 v27) 37 v1) 38 v28) 39 v29) 40 v30) 36 v31) 42 v33) 43 v34) 41 v35) 44 v38) 45 v39) 46 v1) 47 v41) 48 v42) 6 v42) 50 v44) 51 v42) 52 v45) 49 v45) 53 v47) 54 v48) 7 v47) 8 v48) 56 v49) 57 v42) 58 v50) 55 v50) 59 v52) 60 v53) 9 v52) 10 v53) 61 v48) 62 v54) 63 v54) 63 (Value.bool false)) 64 v53) 65 v55) 66 v55) 67 v55) 67 (Value.bool false)) 68 v47) 69 v56) 70 v57) 71 v57) 72 v57) 72 (Value.bool true)) 73 undef) 74 undef) 75 undef) 76 (Value.bool true)) h51 (contX pl5 prog J 171 h.length 5 ct5 [1, 1, 1, 1, 1, 1, 1, 1, 1, 0, 1] (codeOf f5) [] (RetQ prog [.tmp 2] h.length K))))
(aLenS v52 fun v58 =>
aBin prog .neq 3 v58 (vint 40) fun v59 =>
Hold (W prog J 171 h.length 5 (subC [1, 1, 1, 1, 1, 1, 1, 1, 1, 0, 1] (codeOf f5)) (RG.p (RG.p (RG.p (RG.p (RG.p (RG.p (RG.p (RG.p (RG.p (RG.p (RG.p (RG.p (RG.p (RG.p (RG.p (RG.p (RG.p (RG.p (RG.p (RG.p (RG.p (RG.p (RG.p (RG.p (RG.p (RG.p (RG.p (RG.p (RG.p (RG.p (RG.p (RG.p (RG.p (RG.p (RG.p (RG.p (RG.p (RG.p (RG.p (RG.p (RG.p (RG.p (RG.p (RG.p (RG.p (RG.p (RG.p (RG.p (RG.p (RG.p (RG.p (RG.p (RG.p (RG.p (RG.p (RG.p (RG.p (RG.p (RG.p (RG.p (RG.p (RG.p (RG.p (RG.p (RG.p (RG.p (RG.p (RG.p (RG.p (RG.p (RG.p (RG.p (RG.p (RG.mk (regs [a0]) []) 2 (Value.bool false)) 16 a0) 17 v1) 3 v1) 18 v1) 19 v3) 4 v5) 20 v8) 21 v9) 5 v11) 22 v1) 23 v14) 24 v15) 25 v16) 26 v17) 27 v19) 28 v20) 29 v1) 30 v22) 31 v23) 32 v24) 33 v25) 34 v26) 35 v27) 37 v1) 38 v28) 39 v29) 40 v30) 36 v31) 42 v33) 43 v34) 41 v35) 44 v38) 45 v39) 46 v1) 47 v41) 48 v42) 6 v42) 50 v44) 51 v42) 52 v45) 49 v45) 53 v47) 54 v48) 7 v47) 8 v48) 56 v49) 57 v42) 58 v50) 55 v50) 59 v52) 60 v53) 9 v52) 10 v53) 61 v48) 62 v54) 63 v54) 63 (Value.bool false)) 64 v53) 65 v55) 66 v55) 67 v55) 67 (Value.bool false)) 68 v47) 69 v56) 70 v57) 71 v57) 72 v57) 72 (Value.bool false)) 73 v52) 74 v58) 75 v59) 76 v59) h51 (contX pl5 prog J 171 h.length 5 ct5 [1, 1, 1, 1, 1, 1, 1, 1, 1, 0, 1] (codeOf f5) [] (RetQ prog [.tmp 2] h.length K)))))))))))) := top_eq pok5 ct5 (by kernel_rfl)
theorem g5 (hJ : Closed prog main J) {a0 : Value} (hs : heapOk h → W prog J 171 h.length 5 (codeOf f5) (RG.mk (regs [a0]) []) h (RetQ prog [.tmp 2] h.length K)) : Good prog J 5 [a0] h K :=
  good_of_W hJ mixed at5 body5 (by kernel_rfl) (Nat.le_of_ble_eq_true rfl) hs
end
section
variable {main : Bool} {J : JT} {n0 : Nat} {h : List AObj} {K : Value → List AObj → Prop}
theorem at44 : prog.funcs[44]? = some f44 := by kernel_rfl
theorem body44 : f44.body = some (codeOf f44) := by kernel_rfl
def pl44 : Plans := []
def ct44 : Cuts := .go
theorem pok44 : plansOk prog pl44 (codeOf f44) = true := by kernel_rfl
theorem e44 {a0 a1 : Value} : W prog J 39 h.length 44 (codeOf f44) (RG.mk (regs [a0, a1]) []) h (RetQ prog [.tmp 4, .tmp 5] h.length K) =
(aBox a0 h fun v1 h2 =>
aLoad true 4 v1 h2 fun v3 =>
Good prog J 52 [v3, a1] h2 fun v4 h5 =>
aExt v4 0 fun v6 =>
aExt v4 1 fun v7 =>
aLoad true 4 v1 h5 fun v8 =>
Good prog J 38 [v8, a1] h5 fun v9 h10 =>
aExt v9 0 fun v11 =>
aExt v9 1 fun v12 =>
aLenS v6 fun v13 =>
aBin prog .eql 3 v13 (vint 0) fun v14 =>
cnd v14
(aBin prog .eql 39 v12 (vint 11) fun v15 =>
aBin prog .eql 39 v7 (vint 0) fun v16 =>
cnd v16
(aBin prog .eql 39 v12 (vint 0) fun v17 =>
cnd v17
(retL h.length K [] [v15, (Value.bool true)] h10)
(aBin prog .eql 39 v12 (vint 11) fun v18 =>
retL h.length K [] [v15, v18] h10))
(retL h.length K [] [v15, (Value.bool false)] h10))
(aBin prog .eql 39 v7 (vint 0) fun v19 =>
cnd v19
(aBin prog .eql 39 v12 (vint 0) fun v20 =>
cnd v20
(retL h.length K [] [(Value.bool false), (Value.bool true)] h10)
(aBin prog .eql 39 v12 (vint 11) fun v21 =>
retL h.length K [] [(Value.bool false), v21] h10))
(retL h.length K [] [(Value.bool false), (Value.bool false)] h10))) := top_eq pok44 ct44 (by kernel_rfl)
theorem g44 (hJ : Closed prog main J) {a0 a1 : Value} (hs : heapOk h → W prog J 39 h.length 44 (codeOf f44) (RG.mk (regs [a0, a1]) []) h (RetQ prog [.tmp 4, .tmp 5] h.length K)) : Good prog J 44 [a0, a1] h K :=
  good_of_W hJ mixed at44 body44 (by kernel_rfl) (Nat.le_of_ble_eq_true rfl) hs
def pl12 : Plans := [(13, true, .take 0 (.take 1 (.take 4 (.take 5 (.alt 2 false (.alt 3 false (.last 6 false (.last 7 false (.take 8 (.fin)))) (.last 6 false (.last 3 false (.last 7 false (.take 8 (.fin)))))) (.last 6 false (.last 2 false (.last 3 false (.last 7 false (.take 8 (.fin)))))))))))]
def ct12 : Cuts := .bin (.go) (.bin (.go) (.bin (.go) (.bin (.go) (.bin (.go) (.bin (.go) (.bin (.go) (.bin (.go) (.bin (.bin (.go) (.cut (.go))) (.bin (.bin (.go) (.un (.un (.bin (.go) (.bin (.un (.bin (.go) (.cut (.bin (.go) (.bin (.go) (.bin (.go) (.bin (.go) (.cut (.go))))))))) (.go)))))) (.go))))))))))
theorem pok12 : plansOk prog pl12 (codeOf f12) = true := by kernel_rfl
theorem e12 {a0 : Value} : W prog J 120 h.length 12 (codeOf f12) (RG.mk (regs [a0]) []) h (RetQ prog [.tmp 2] h.length K) =
(Good prog J 20 [a0] h fun v1 h2 =>
Good prog J 21 [v1, (vint 3), (vint 12)] h2 fun v3 h4 =>
aAlloc [(vint 0), (vint 0), (vint 0), (Value.slice none 0 0)] h4 fun v5 h6 =>
aStore 4 v5 v3 h6 fun h7 =>
aOff v5 0 fun v8 =>
aOff v8 1 fun v9 =>
aLoad false 1 v9 h7 fun v10 =>
aOff v5 0 fun v11 =>
aOff v11 0 fun v12 =>
aStore 1 v12 v10 h7 fun h13 =>
aLoad true 4 v5 h13 fun v14 =>
Good prog J 36 [v1, v14, (vint 5)] h13 fun v15 h16 =>
aLoad true 4 v5 h16 fun v17 =>
Good prog J 53 [v17, v15] h16 fun v18 h19 =>
aExt v18 0 fun v20 =>
aExt v18 1 fun v21 =>
aLoad true 4 v5 h19 fun v22 =>
Good prog J 52 [v22, v15] h19 fun v23 h24 =>
aExt v23 0 fun v25 =>
aExt v23 1 fun v26 =>
aLoad true 4 v5 h24 fun v27 =>
Good prog J 38 [v27, v15] h24 fun v28 h29 =>
aExt v28 0 fun v30 =>
aExt v28 1 fun v31 =>
aBin prog .neq 39 v21 (vint 0) fun v32 =>
cnd v32
(Hold (W prog J 120 h.length 12 (subC [1, 1, 1, 1, 1, 1, 1, 1, 0, 1] (codeOf f12)) (RG.p (RG.p (RG.p (RG.p (RG.p (RG.p (RG.p (RG.p (RG.p (RG.p (RG.p (RG.p (RG.p (RG.p (RG.p (RG.p (RG.p (RG.p (RG.p (RG.p (RG.p (RG.p (RG.p (RG.p (RG.p (RG.p (RG.p (RG.p (RG.p (RG.p (RG.p (RG.p (RG.p (RG.p (RG.p (RG.p (RG.p (RG.p (RG.p (RG.p (RG.p (RG.p (RG.p (RG.p (RG.p (RG.p (RG.p (RG.p (RG.p (RG.p (RG.p (RG.p (RG.p (RG.p (RG.p (RG.p (RG.mk (regs [a0]) []) 2 (Value.bool false)) 20 a0) 21 v1) 3 v1) 22 v1) 23 v3) 4 v5) 24 v8) 25 v9) 26 v10) 27 v11) 28 v12) 29 v1) 30 v14) 31 v15) 5 v15) 33 v17) 34 v15) 35 v18) 32 v18) 36 v20) 37 v21) 6 v20) 7 v21) 39 v22) 40 v15) 41 v23) 38 v23) 42 v25) 43 v26) 8 v25) 9 v26) 45 v27) 46 v15) 47 v28) 44 v28) 48 v30) 49 v31) 10 v30) 11 v31) 50 v21) 51 v32) 52 v32) 52 (Value.bool true)) 53 undef) 54 undef) 55 (Value.bool true)) 56 (Value.bool true)) 56 (Value.bool true)) 57 undef) 58 undef) 59 undef) 60 undef) 61 undef) 62 undef) 63 (Value.bool true)) h29 (contX pl12 prog J 120 h.length 12 ct12 [1, 1, 1, 1, 1, 1, 1, 1, 0, 1] (codeOf f12) [] (RetQ prog [.tmp 2] h.length K))))
(aBin prog .neq 39 v26 (vint 0) fun v33 =>
cnd v33
(Hold (W prog J 120 h.length 12 (subC [1, 1, 1, 1, 1, 1, 1, 1, 0, 1] (codeOf f12)) (RG.p (RG.p (RG.p (RG.p (RG.p (RG.p (RG.p (RG.p (RG.p (RG.p (RG.p (RG.p (RG.p (RG.p (RG.p (RG.p (RG.p (RG.p (RG.p (RG.p (RG.p (RG.p (RG.p (RG.p (RG.p (RG.p (RG.p (RG.p (RG.p (RG.p (RG.p (RG.p (RG.p (RG.p (RG.p (RG.p (RG.p (RG.p (RG.p (RG.p (RG.p (RG.p (RG.p (RG.p (RG.p (RG.p (RG.p (RG.p (RG.p (RG.p (RG.p (RG.p (RG.p (RG.p (RG.p (RG.p (RG.mk (regs [a0]) []) 2 (Value.bool false)) 20 a0) 21 v1) 3 v1) 22 v1) 23 v3) 4 v5) 24 v8) 25 v9) 26 v10) 27 v11) 28 v12) 29 v1) 30 v14) 31 v15) 5 v15) 33 v17) 34 v15) 35 v18) 32 v18) 36 v20) 37 v21) 6 v20) 7 v21) 39 v22) 40 v15) 41 v23) 38 v23) 42 v25) 43 v26) 8 v25) 9 v26) 45 v27) 46 v15) 47 v28) 44 v28) 48 v30) 49 v31) 10 v30) 11 v31) 50 v21) 51 v32) 52 v32) 52 (Value.bool false)) 53 v26) 54 v33) 55 v33) 56 v33) 56 (Value.bool true)) 57 undef) 58 undef) 59 undef) 60 undef) 61 undef) 62 undef) 63 (Value.bool true)) h29 (contX pl12 prog J 120 h.length 12 ct12 [1, 1, 1, 1, 1, 1, 1, 1, 0, 1] (codeOf f12) [] (RetQ prog [.tmp 2] h.length K))))
(aBin prog .neq 39 v31 (vint 0) fun v34 =>
cnd v34
(aBin prog .neq 39 v31 (vint 11) fun v35 =>
Hold (W prog J 120 h.length 12 (subC [1, 1, 1, 1, 1, 1, 1, 1, 0, 1] (codeOf f12)) (RG.p (RG.p (RG.p (RG.p (RG.p (RG.p (RG.p (RG.p (RG.p (RG.p (RG.p (RG.p (RG.p (RG.p (RG.p (RG.p (RG.p (RG.p (RG.p (RG.p (RG.p (RG.p (RG.p (RG.p (RG.p (RG.p (RG.p (RG.p (RG.p (RG.p (RG.p (RG.p (RG.p (RG.p (RG.p (RG.p (RG.p (RG.p (RG.p (RG.p (RG.p (RG.p (RG.p (RG.p (RG.p (RG.p (RG.p (RG.p (RG.p (RG.p (RG.p (RG.p (RG.p (RG.p (RG.p (RG.p (RG.p (RG.mk (regs [a0]) []) 2 (Value.bool false)) 20 a0) 21 v1) 3 v1) 22 v1) 23 v3) 4 v5) 24 v8) 25 v9) 26 v10) 27 v11) 28 v12) 29 v1) 30 v14) 31 v15) 5 v15) 33 v17) 34 v15) 35 v18) 32 v18) 36 v20) 37 v21) 6 v20) 7 v21) 39 v22) 40 v15) 41 v23) 38 v23) 42 v25) 43 v26) 8 v25) 9 v26) 45 v27) 46 v15) 47 v28) 44 v28) 48 v30) 49 v31) 10 v30) 11 v31) 50 v21) 51 v32) 52 v32) 52 (Value.bool false)) 53 v26) 54 v33) 55 v33) 56 v33) 56 (Value.bool false)) 57 v31) 58 v34) 59 v34) 59 (Value.bool true)) 60 v31) 61 v35) 62 v35) 63 v35) h29 (contX pl12 prog J 120 h.length 12 ct12 [1, 1, 1, 1, 1, 1, 1, 1, 0, 1] (codeOf f12) [] (RetQ prog [.tmp 2] h.length K))))
(Hold (W prog J 120 h.length 12 (subC [1, 1, 1, 1, 1, 1, 1, 1, 0, 1] (codeOf f12)) (RG.p (RG.p (RG.p (RG.p (RG.p (RG.p (RG.p (RG.p (RG.p (RG.p (RG.p (RG.p (RG.p (RG.p (RG.p (RG.p (RG.p (RG.p (RG.p (RG.p (RG.p (RG.p (RG.p (RG.p (RG.p (RG.p (RG.p (RG.p (RG.p (RG.p (RG.p (RG.p (RG.p (RG.p (RG.p (RG.p (RG.p (RG.p (RG.p (RG.p (RG.p (RG.p (RG.p (RG.p (RG.p (RG.p (RG.p (RG.p (RG.p (RG.p (RG.p (RG.p (RG.p (RG.p (RG.p (RG.p (RG.p (RG.mk (regs [a0]) []) 2 (Value.bool false)) 20 a0) 21 v1) 3 v1) 22 v1) 23 v3) 4 v5) 24 v8) 25 v9) 26 v10) 27 v11) 28 v12) 29 v1) 30 v14) 31 v15) 5 v15) 33 v17) 34 v15) 35 v18) 32 v18) 36 v20) 37 v21) 6 v20) 7 v21) 39 v22) 40 v15) 41 v23) 38 v23) 42 v25) 43 v26) 8 v25) 9 v26) 45 v27) 46 v15) 47 v28) 44 v28) 48 v30) 49 v31) 10 v30) 11 v31) 50 v21) 51 v32) 52 v32) 52 (Value.bool false)) 53 v26) 54 v33) 55 v33) 56 v33) 56 (Value.bool false)) 57 v31) 58 v34) 59 v34) 59 (Value.bool false)) 60 undef) 61 undef) 62 (Value.bool false)) 63 (Value.bool false)) h29 (contX pl12 prog J 120 h.length 12 ct12 [1, 1, 1, 1, 1, 1, 1, 1, 0, 1] (codeOf f12) [] (RetQ prog [.tmp 2] h.length K))))))) := top_eq pok12 ct12 (by kernel_rfl)
end
section
variable {main : Bool} {J : JT} {n0 : Nat} {h : List AObj} {K : Value → List AObj → Prop}
theorem at94 : prog.funcs[94]? = some f94 := by kernel_rfl
theorem body94 : f94.body = some (codeOf f94) := by kernel_rfl
def pl94 : Plans := []
def ct94 : Cuts := .bin (.go) (.bin (.go) (.bin (.bin (.go) (.un (.un (.bin (.go) (.bin (.go) (.bin (.un (.bin (.go) (.bin (.go) (.bin (.go) (.cut (.go)))))) (.go))))))) (.go)))
theorem pok94 : plansOk prog pl94 (codeOf f94) = true := by kernel_rfl
theorem e94 {a0 a1 : Value} : W prog J 34 h.length 94 (codeOf f94) (RG.mk (regs [a0, a1]) []) h (RetQ prog [.tmp 4] h.length K) =
(aBox a0 h fun v1 h2 =>
aOff v1 3 fun v3 =>
aLoad false 1 v3 h2 fun v4 =>
aLenS v4 fun v5 =>
Sem J 34 h.length 94 (subC [1, 1, 0, 1, 0] (codeOf f94)) (RG.p (RG.p (RG.p (RG.p (RG.p (RG.p (RG.p (RG.mk (regs [a0, a1]) []) 2 v1) 4 (Value.slice none 0 0)) 5 (Value.slice none 0 0)) 9 v3) 10 v4) 11 v5) 12 (vint 0)) h2 (contX pl94 prog J 34 h.length 94 ct94 [1, 1, 0, 1, 0] (codeOf f94) [] (RetQ prog [.tmp 4] h.length K))) := top_eq pok94 ct94 (by kernel_rfl)
theorem g94 (hJ : Closed prog main J) {a0 a1 : Value} (hs : heapOk h → W prog J 34 h.length 94 (codeOf f94) (RG.mk (regs [a0, a1]) []) h (RetQ prog [.tmp 4] h.length K)) : Good prog J 94 [a0, a1] h K :=
  good_of_W hJ mixed at94 body94 (by kernel_rfl) (Nat.le_of_ble_eq_true rfl) hs
theorem s94_1 {f : RG} {nx0 : RG → List AObj → Prop} : W prog J 34 n0 94 (subC [1, 1, 0, 1, 0, 0] (codeOf f94)) f h (thenK nx0 (contX pl94 prog J 34 n0 94 ct94 [1, 1, 0, 1, 0] (codeOf f94) [] (RetQ prog [.tmp 4] n0 K))) =
(aBin prog .lss 3 (f.r 12) (f.r 11) fun v1 =>
cnd v1
(aIdx 2 (f.r 10) (f.r 12) fun v2 =>
aLoad true 2 v2 h fun v3 =>
aAlloc [(vint 0), (vint 0)] h fun v4 h5 =>
aStore 2 v4 v3 h5 fun h6 =>
Good prog J 95 [(f.r 1), (f.r 12)] h6 fun v7 h8 =>
aBin prog .eql 3 v7 (vint 0) fun v9 =>
cnd v9
(Hold (W prog J 34 n0 94 (subC [1, 1, 0, 1, 0, 0, 1, 1, 0, 0, 1, 1, 1] (codeOf f94)) (RG.p (RG.p (RG.p (RG.p (RG.p (RG.p (RG.p (RG.p (RG.p (RG.p (RG.p (RG.p (RG.p (RG.p (RG.p (RG.p (RG.p (RG.p (RG.p f 13 v1) 14 (f.r 12)) 15 v2) 16 v3) 7 v4) 6 (f.r 12)) 17 (f.r 1)) 18 (f.r 12)) 19 v7) 8 v7) 20 v7) 21 v9) 22 v9) 22 (Value.bool true)) 23 undef) 24 undef) 25 undef) 26 undef) 27 (Value.bool true)) h8 (contX pl94 prog J 34 n0 94 ct94 [1, 1, 0, 1, 0, 0, 1, 1, 0, 0, 1, 1, 1] (codeOf f94) [nx0] (RetQ prog [.tmp 4] n0 K))))
(aOff v4 1 fun v10 =>
aLoad false 1 v10 h8 fun v11 =>
aBin prog .gtr 3 v7 v11 fun v12 =>
Hold (W prog J 34 n0 94 (subC [1, 1, 0, 1, 0, 0, 1, 1, 0, 0, 1, 1, 1] (codeOf f94)) (RG.p (RG.p (RG.p (RG.p (RG.p (RG.p (RG.p (RG.p (RG.p (RG.p (RG.p (RG.p (RG.p (RG.p (RG.p (RG.p (RG.p (RG.p (RG.p f 13 v1) 14 (f.r 12)) 15 v2) 16 v3) 7 v4) 6 (f.r 12)) 17 (f.r 1)) 18 (f.r 12)) 19 v7) 8 v7) 20 v7) 21 v9) 22 v9) 22 (Value.bool false)) 23 v7) 24 v10) 25 v11) 26 v12) 27 v12) h8 (contX pl94 prog J 34 n0 94 ct94 [1, 1, 0, 1, 0, 0, 1, 1, 0, 0, 1, 1, 1] (codeOf f94) [nx0] (RetQ prog [.tmp 4] n0 K)))))
(retL n0 K f.ds [(f.r 5)] h)) := sub_eq pok94 ct94 (by kernel_rfl)
theorem l94_1 (hJ : Closed prog main J) {S : Type} (μ : S → Nat) (I : S → RG → List AObj → Prop) (hI : ∀ s f h, I s f h → heapOk h → n0 ≤ h.length → W prog J 34 n0 94 (subC [1, 1, 0, 1, 0, 0] (codeOf f94)) f h (thenK (Nx n0 μ I s) (contX pl94 prog J 34 n0 94 ct94 [1, 1, 0, 1, 0] (codeOf f94) [] (RetQ prog [.tmp 4] n0 K))))
  {s : S} {f : RG} (hi : Gets n0 I s f h) : Sem J 34 n0 94 (subC [1, 1, 0, 1, 0] (codeOf f94)) f h (contX pl94 prog J 34 n0 94 ct94 [1, 1, 0, 1, 0] (codeOf f94) [] (RetQ prog [.tmp 4] n0 K)) :=
  loop_rule hJ mixed (b := subC [1, 1, 0, 1, 0, 0] (codeOf f94)) (by kernel_rfl) μ I hI hi
theorem s94_2 {f : RG} {nx0 : RG → List AObj → Prop} : W prog J 34 n0 94 (subC [1, 1, 0, 1, 0, 0, 1, 1, 0, 0, 1, 1, 1] (codeOf f94)) f h (contX pl94 prog J 34 n0 94 ct94 [1, 1, 0, 1, 0, 0, 1, 1, 0, 0, 1, 1, 1] (codeOf f94) [nx0] (RetQ prog [.tmp 4] n0 K)) =
(cnd (f.r 27)
((((1 * 1 : Nat) ≤ 16777216 ∧ (1 : Nat) ≤ 16777216 ∧ List.length [(vint 0)] = 1) ∧ aFill (zrep [(vint 0)] 1) [(0, 1, (f.r 6))] fun c1 =>
aNewS 1 c1 h fun v2 h3 =>
((List.length [(vint 0)] = 1 ∧ 0 < (1 : Nat) ∧ 0 < (8 : Nat) ∧ (8 : Nat) ≤ 1024) ∧ aApp 1 (f.r 5) v2 h3 fun v4 h5 =>
aBin prog .add 3 (f.r 12) (vint 1) fun v6 =>
nx0 (RG.p (RG.p (RG.p (RG.p (RG.p (RG.p (RG.p f 28 (f.r 5)) 29 (f.r 6)) 30 v2) 31 v4) 5 v4) 32 v6) 12 v6) h5)))
(aBin prog .add 3 (f.r 12) (vint 1) fun v7 =>
nx0 (RG.p (RG.p f 32 v7) 12 v7) h)) := sub_eq pok94 ct94 (by kernel_rfl)
theorem at95 : prog.funcs[95]? = some f95 := by kernel_rfl
theorem body95 : f95.body = some (codeOf f95) := by kernel_rfl
def pl95 : Plans := []
def ct95 : Cuts := .go
theorem pok95 : plansOk prog pl95 (codeOf f95) = true := by kernel_rfl
theorem e95 {a0 a1 : Value} : W prog J 32 h.length 95 (codeOf f95) (RG.mk (regs [a0, a1]) []) h (RetQ prog [.tmp 4] h.length K) =
((((2 * 1 : Nat) ≤ 16777216 ∧ (2 : Nat) ≤ 16777216 ∧ List.length [(Value.slice none 0 0)] = 1) ∧ aFill (zrep [(Value.slice none 0 0)] 2) [(0, 1, a0), (1, 1, a0)] fun c1 =>
aNewS 2 c1 h fun v2 h3 =>
Good prog J 122 [v2] h3 fun v4 h5 =>
aLenS v4 fun v6 =>
Sem J 32 h.length 95 (subC [1, 1, 0, 1, 0] (codeOf f95)) (RG.p (RG.p (RG.p (RG.p (RG.p (RG.p (RG.p (RG.p (RG.p (RG.mk (regs [a0, a1]) []) 4 (vint 0)) 5 (vint (-1))) 6 (vint 0)) 9 a0) 10 a0) 11 v2) 12 v4) 13 v6) 14 (vint 0)) h5 (contX pl95 prog J 32 h.length 95 ct95 [1, 1, 0, 1, 0] (codeOf f95) [] (RetQ prog [.tmp 4] h.length K)))) := top_eq pok95 ct95 (by kernel_rfl)
theorem g95 (hJ : Closed prog main J) {a0 a1 : Value} (hs : heapOk h → W prog J 32 h.length 95 (codeOf f95) (RG.mk (regs [a0, a1]) []) h (RetQ prog [.tmp 4] h.length K)) : Good prog J 95 [a0, a1] h K :=
  good_of_W hJ mixed at95 body95 (by kernel_rfl) (Nat.le_of_ble_eq_true rfl) hs
theorem s95_1 {f : RG} {nx0 : RG → List AObj → Prop} : W prog J 32 n0 95 (subC [1, 1, 0, 1, 0, 0] (codeOf f95)) f h (thenK nx0 (contX pl95 prog J 32 n0 95 ct95 [1, 1, 0, 1, 0] (codeOf f95) [] (RetQ prog [.tmp 4] n0 K))) =
(aBin prog .lss 3 (f.r 14) (f.r 13) fun v1 =>
cnd v1
(aIdx 1 (f.r 12) (f.r 14) fun v2 =>
aLoad false 1 v2 h fun v3 =>
aBin prog .neq 3 v3 (f.r 1) fun v4 =>
cnd v4
(aBin prog .add 3 (f.r 14) (vint 1) fun v5 =>
nx0 (RG.p (RG.p (RG.p (RG.p (RG.p (RG.p (RG.p (RG.p (RG.p (RG.p (RG.p f 15 v1) 16 (f.r 14)) 17 v2) 18 v3) 7 (f.r 14)) 8 v3) 19 v3) 20 (f.r 1)) 21 v4) 30 v5) 14 v5) h)
(aBin prog .geq 3 (f.r 5) (vint 0) fun v6 =>
cnd v6
(aBin prog .sub 3 (f.r 14) (f.r 5) fun v7 =>
aMax (f.r 6) [v7] fun v8 =>
aBin prog .add 3 (f.r 14) (vint 1) fun v9 =>
nx0 (RG.p (RG.p (RG.p (RG.p (RG.p (RG.p (RG.p (RG.p (RG.p (RG.p (RG.p (RG.p (RG.p (RG.p (RG.p (RG.p (RG.p (RG.p (RG.p (RG.p (RG.p f 15 v1) 16 (f.r 14)) 17 v2) 18 v3) 7 (f.r 14)) 8 v3) 19 v3) 20 (f.r 1)) 21 v4) 22 (f.r 5)) 23 v6) 24 (f.r 6)) 25 (f.r 14)) 26 (f.r 5)) 27 v7) 28 v8) 6 v8) 29 (f.r 14)) 5 (f.r 14)) 30 v9) 14 v9) h)
(aBin prog .add 3 (f.r 14) (vint 1) fun v10 =>
nx0 (RG.p (RG.p (RG.p (RG.p (RG.p (RG.p (RG.p (RG.p (RG.p (RG.p (RG.p (RG.p (RG.p (RG.p (RG.p f 15 v1) 16 (f.r 14)) 17 v2) 18 v3) 7 (f.r 14)) 8 v3) 19 v3) 20 (f.r 1)) 21 v4) 22 (f.r 5)) 23 v6) 29 (f.r 14)) 5 (f.r 14)) 30 v10) 14 v10) h)))
(retL n0 K f.ds [(f.r 6)] h)) := sub_eq pok95 ct95 (by kernel_rfl)
theorem l95_1 (hJ : Closed prog main J) {S : Type} (μ : S → Nat) (I : S → RG → List AObj → Prop) (hI : ∀ s f h, I s f h → heapOk h → n0 ≤ h.length → W prog J 32 n0 95 (subC [1, 1, 0, 1, 0, 0] (codeOf f95)) f h (thenK (Nx n0 μ I s) (contX pl95 prog J 32 n0 95 ct95 [1, 1, 0, 1, 0] (codeOf f95) [] (RetQ prog [.tmp 4] n0 K))))
  {s : S} {f : RG} (hi : Gets n0 I s f h) : Sem J 32 n0 95 (subC [1, 1, 0, 1, 0] (codeOf f95)) f h (contX pl95 prog J 32 n0 95 ct95 [1, 1, 0, 1, 0] (codeOf f95) [] (RetQ prog [.tmp 4] n0 K)) :=
  loop_rule hJ mixed (b := subC [1, 1, 0, 1, 0, 0] (codeOf f95)) (by kernel_rfl) μ I hI hi
theorem at99 : prog.funcs[99]? = some f99 := by kernel_rfl
theorem body99 : f99.body = some (codeOf f99) := by kernel_rfl
def pl99 : Plans := []
def ct99 : Cuts := .go
theorem pok99 : plansOk prog pl99 (codeOf f99) = true := by kernel_rfl
theorem e99 {a0 a1 : Value} : W prog J 16 h.length 99 (codeOf f99) (RG.mk (regs [a0, a1]) []) h (RetQ prog [.tmp 4] h.length K) =
(aBox a0 h fun v1 h2 =>
aLoad true 4 v1 h2 fun v3 =>
Good prog J 94 [v3, a1] h2 fun v4 h5 =>
aLenS v4 fun v6 =>
aBin prog .eql 3 v6 (vint 0) fun v7 =>
cnd v7
(aLoad true 4 v1 h5 fun v8 =>
Good prog J 89 [v8, a1] h5 fun v9 h10 =>
aBin prog .lss 3 v9 (vint 0) fun v11 =>
retL h.length K [] [v11] h10)
(retL h.length K [] [(Value.bool false)] h5)) := top_eq pok99 ct99 (by kernel_rfl)
theorem g99 (hJ : Closed prog main J) {a0 a1 : Value} (hs : heapOk h → W prog J 16 h.length 99 (codeOf f99) (RG.mk (regs [a0, a1]) []) h (RetQ prog [.tmp 4] h.length K)) : Good prog J 99 [a0, a1] h K :=
  good_of_W hJ mixed at99 body99 (by kernel_rfl) (Nat.le_of_ble_eq_true rfl) hs
theorem at52 : prog.funcs[52]? = some f52 := by kernel_rfl
theorem body52 : f52.body = some (codeOf f52) := by kernel_rfl
def pl52 : Plans := []
def ct52 : Cuts := .go
theorem pok52 : plansOk prog pl52 (codeOf f52) = true := by kernel_rfl
theorem e52 {a0 a1 : Value} : W prog J 16 h.length 52 (codeOf f52) (RG.mk (regs [a0, a1]) []) h (RetQ prog [.tmp 4, .tmp 5] h.length K) =
(aBox a0 h fun v1 h2 =>
aLoad true 4 v1 h2 fun v3 =>
Good prog J 86 [v3, a1] h2 fun v4 h5 =>
aBin prog .neq 39 v4 (vint 0) fun v6 =>
cnd v6
(retL h.length K [] [(Value.slice none 0 0), v4] h5)
(aLoad true 4 v1 h5 fun v7 =>
Good prog J 94 [v7, a1] h5 fun v8 h9 =>
retL h.length K [] [v8, (vint 0)] h9)) := top_eq pok52 ct52 (by kernel_rfl)
theorem g52 (hJ : Closed prog main J) {a0 a1 : Value} (hs : heapOk h → W prog J 16 h.length 52 (codeOf f52) (RG.mk (regs [a0, a1]) []) h (RetQ prog [.tmp 4, .tmp 5] h.length K)) : Good prog J 52 [a0, a1] h K :=
  good_of_W hJ mixed at52 body52 (by kernel_rfl) (Nat.le_of_ble_eq_true rfl) hs
def pl53 : Plans := []
def ct53 : Cuts := .go
theorem pok53 : plansOk prog pl53 (codeOf f53) = true := by kernel_rfl
theorem e53 {a0 a1 : Value} : W prog J 29 h.length 53 (codeOf f53) (RG.mk (regs [a0, a1]) []) h (RetQ prog [.tmp 4, .tmp 5] h.length K) =
(aBox a0 h fun v1 h2 =>
aLoad true 4 v1 h2 fun v3 =>
Good prog J 86 [v3, a1] h2 fun v4 h5 =>
aBin prog .neq 39 v4 (vint 0) fun v6 =>
cnd v6
(retL h.length K [] [(Value.slice none 0 0), v4] h5)
(aOff v1 3 fun v7 =>
aLoad false 1 v7 h5 fun v8 =>
aLenS v8 fun v9 =>
Sem J 29 h.length 53 (subC [1, 1, 1, 0, 1, 0] (codeOf f53)) (RG.p (RG.p (RG.p (RG.p (RG.p (RG.p (RG.p (RG.p (RG.p (RG.p (RG.p (RG.p (RG.p (RG.p (RG.mk (regs [a0, a1]) []) 2 v1) 4 (Value.slice none 0 0)) 5 (vint 0)) 9 v3) 10 a1) 11 v4) 6 v4) 12 v4) 13 v6) 7 (Value.slice none 0 0)) 15 v7) 16 v8) 17 v9) 18 (vint 0)) h5 (contX pl53 prog J 29 h.length 53 ct53 [1, 1, 1, 0, 1, 0] (codeOf f53) [] (RetQ prog [.tmp 4, .tmp 5] h.length K)))) := top_eq pok53 ct53 (by kernel_rfl)
end
end Go.Proofs.Ytindillghipjjaa
