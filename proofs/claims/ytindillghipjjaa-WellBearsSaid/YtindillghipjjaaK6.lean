/- WellBears answers true at every input, and its arguments read behind the call as they read before. No conditions. -/
import Derived.Test.YtindillghipjjaaK5
import Derived.Test.YtindillghipjjaaK2
import Derived.Test.YtindillghipjjaaK4
import Derived.Test.YtindillghipjjaaK3
import Derived.Below
import Derived.Test.YtindillghipjjaaRows
import Derived.Conc.LeavingOf
import Derived.ChangeSlices
import Derived.OpenShut
import Derived.Carry
import Derived.Deep.Slices
namespace Go.Proofs.Ytindillghipjjaa
open Go.Conc
mutual
theorem sub_idV : ∀ v : Value, sub (fun i => i) v = v
  | .pointer (some a) => by simp [sub]
  | .slice (some a) _ _ => by simp [sub]
  | .map (some r) => by simp [sub]
  | .chan (some r) => by simp [sub]
  | .func fn first cap => by
    have hf : subFn (fun i => i) fn = fn := by cases fn <;> simp [subFn]
    simp only [sub, hf, sub_idA first, sub_idA cap]
  | .iface _ v => by simp only [sub, sub_idV v]
  | .agg cs => by simp only [sub, sub_idA cs]
  | .tuple vs => by simp only [sub, sub_idA vs]
  | .bool _ | .int _ _ | .float _ _ | .complex _ _ _ | .string _ | .pointer none | .slice none _ _ | .map none | .chan none | .nilFunc | .nilIface => by simp only [sub]
theorem sub_idA : ∀ a : Array Value, subA (fun i => i) a = a
  | ⟨l⟩ => by simp only [subA, sub_idL l]
theorem sub_idL : ∀ l : List Value, subL (fun i => i) l = l
  | [] => by simp only [subL]
  | v :: l => by simp only [subL, sub_idV v, sub_idL l]
end
section
variable {P : Program} {J : JT} {C : CB} {N : Nat} {ops : Array Oper} {ds : List Nat} {σ : Nat → Nat}
theorem simA_t {a b : Value} (hx : simA σ a b = true) : b = sub σ a := by
  unfold simA at hx
  split at hx <;> first
    | rfl
    | cases hx; done
    | (simp only [Bool.and_eq_true, beq_iff_eq, Nat.beq_eq] at hx; obtain ⟨⟨⟨rfl, rfl⟩, rfl⟩, rfl⟩ := hx; rfl)
    | (simp only [Bool.and_eq_true, beq_iff_eq, Nat.beq_eq] at hx; obtain ⟨rfl, rfl⟩ := hx; rfl)
    | (simp only [beq_iff_eq, Nat.beq_eq] at hx; subst hx; rfl)
theorem simL_t {p : Value → Value → Bool} {g : Value → Value} (hp : ∀ a b, p a b = true → b = g a) : ∀ {a b : List Value}, simL p a b = true → b = a.map g
  | [], [], _ => rfl
  | a :: l, b :: m, hx => by
    unfold simL at hx
    obtain ⟨x, y⟩ := and_t hx
    rw [hp _ _ x, simL_t hp y]
    rfl
  | [], b :: m, hx => by cases hx
  | a :: l, [], hx => by cases hx
theorem simS_t {a b : Value} (hx : simS σ a b = true) : b = sub σ a := by
  unfold simS at hx
  split at hx
  · obtain ⟨x, y⟩ := and_t hx
    obtain ⟨x, z⟩ := and_t x
    have x : _ = _ := Nat.eq_of_beq_eq_true x
    rw [simL_t (g := sub σ) (fun _ _ => simA_t) z, simL_t (g := sub σ) (fun _ _ => simA_t) y, ← x]
    simp only [sub, subFn, subA, subL_eq]
  · exact simA_t hx
theorem simV_t {a b : Value} (hx : simV σ a b = true) : b = sub σ a := by
  unfold simV at hx
  split at hx
  · rw [simL_t (g := sub σ) (fun _ _ => simS_t) hx]
    simp only [sub, subA, subL_eq]
  · rw [simL_t (g := sub σ) (fun _ _ => simS_t) hx]
    simp only [sub, subA, subL_eq]
  · exact simS_t hx
theorem eqP_t {a b : Value} (hx : eqP a b = true) : b = a := by
  unfold eqP at hx
  split at hx
  · simp only [Bool.and_eq_true, beq_iff_eq] at hx
    obtain ⟨rfl, rfl⟩ := hx
    rfl
  · simp only [beq_iff_eq] at hx
    subst hx
    rfl
  · cases hx
theorem eqK_t {a b : Value} (hx : eqK a b = true) : b = a := by
  unfold eqK at hx
  split at hx
  · rw [simL_t (g := id) (fun _ _ => eqP_t) hx]
    simp
  · exact eqP_t hx
theorem simE_t : ∀ {a b : List (Value × Value)}, simE σ a b = true → b = a.map fun e => (e.1, sub σ e.2)
  | [], [], _ => rfl
  | (a, x) :: l, (b, y) :: m, hx => by
    unfold simE at hx
    obtain ⟨p, q⟩ := and_t hx
    obtain ⟨p1, p2⟩ := and_t p
    rw [eqK_t p1, simS_t p2, simE_t q]
    rfl
  | [], b :: m, hx => by cases hx
  | a :: l, [], hx => by cases hx
theorem simO_t {a b : AObj} (hx : simO σ a b = true) : b = subO σ a ∧ a.live = true := by
  unfold simO at hx
  split at hx
  · obtain ⟨x, y⟩ := and_t hx
    obtain ⟨x, z⟩ := and_t x
    rw [simL_t (g := sub σ) (fun _ _ => simS_t) x, beq_iff_eq.1 z, beq_iff_eq.1 y]
    exact ⟨rfl, rfl⟩
  · obtain ⟨x, y⟩ := and_t hx
    rw [simE_t x, beq_iff_eq.1 y]
    exact ⟨rfl, rfl⟩
  · exact ⟨rfl, rfl⟩
  · cases hx
theorem subO_idV {o : AObj} (h : ∀ st pend fn r size params assign body dfr, o ≠ .loop st pend fn r size params assign body dfr) : subO (fun i => i) o = o := by
  cases o with
  | cells c wr sz =>
    simp only [subO]
    congr 1
    exact (List.map_congr_left fun v _ => sub_idV v).trans (List.map_id _)
  | map es wr =>
    simp only [subO]
    congr 1
    refine (List.map_congr_left fun e _ => ?_).trans (List.map_id _)
    rw [sub_idV]
    rfl
  | loop => exact absurd rfl (h _ _ _ _ _ _ _ _ _)
  | _ => rfl
theorem xsame_t {B : Option (List Nat)} {x0 x1 : XH} (hx : xsame B x0 x1 = true) : SameB B (hOf x0) (hOf x1) := by
  unfold xsame at hx
  split at hx
  · cases hx
  · intro b hb
    obtain ⟨o1, h1, hx⟩ := hg_t (List.all_eq_true.1 hx b hb)
    obtain ⟨o0, h0, hx⟩ := hg_t hx
    obtain ⟨e, l⟩ := simO_t hx
    rw [h1, h0, e, subO_idV]
    rintro st pend fn r size params assign body dfr rfl
    cases o1 <;> cases hx
theorem xrd_t {B : Option (List Nat)} {x : Option Nat} (hx : xrd B x = true) : RdOk B x := by
  unfold xrd at hx
  unfold RdOk
  split at hx
  · obtain ⟨y, hy, e⟩ := List.any_eq_true.1 hx
    rw [Nat.beq_eq] at e
    rw [e]
    exact hy
  · rename_i n
    split
    · exact absurd rfl (n _ _ rfl)
    · trivial
theorem allOf_t {A : Nat → Bool} {A' : Nat → Prop} : ∀ (l : List Nat), xall l A = true → (∀ i, A i = true → A' i) → allOf l A'
  | [], _, _ => trivial
  | [i], hx, hk => hk i hx
  | i :: j :: l, hx, hk => by
    unfold xall at hx
    obtain ⟨a, b⟩ := and_t hx
    exact ⟨hk i a, allOf_t (j :: l) b hk⟩
noncomputable def rgOf (l : T Value) (ds : List Nat) : RG := ⟨gt l, ds⟩
theorem gt_set {l l' : T Value} {d : Nat} {v : Value} (h : ∀ j, tget unk l' j = if j = d then v else tget unk l j) : (fun t => bif t == d then v else gt l t) = gt l' := by
  funext t
  unfold gt
  rw [h]
  by_cases e : t = d
  · subst e; simp
  · have e1 : (t == d) = false := by simpa using e
    simp [e1, e]
theorem xput_t {d : Option Nat} {v : Value} {l : T Value} {k : T Value → Bool} (hx : xput d v l k = true) : ∃ l', (rgOf l ds).putO d v = rgOf l' ds ∧ k l' = true := by
  cases d with
  | none => exact ⟨l, rfl, hx⟩
  | some d =>
    simp only [xput, fV_eq] at hx
    obtain ⟨l', h1, h2⟩ := tset_t _ hx
    exact ⟨l', by simp only [RG.putO, RG.p, rgOf]; rw [gt_set h2], h1⟩
def CSound (P : Program) (J : JT) (C : CB) : Prop := ∀ g args x K, C g args x K = true → Good P J g args (hOf x) (KP K)
theorem xopW_t (hC : CSound P J C) {o : Oper} {r : Nat → Value} {x : XH} {K : KB} (hx : xopW P C o.op r x K = true) : opW P (Good P J) o r (hOf x) (KP K) := by
  unfold xopW at hx
  unfold opW
  split at hx
  · rename_i e
    simp only [e]
    rw [fL_eq] at hx
    unfold xcallV at hx
    unfold callV
    split at hx
    · rename_i e2
      simp only [e2]
      obtain ⟨a, b⟩ := and_t hx
      rw [a, cond_true]
      exact hC _ _ _ _ b
    · rename_i e2
      simp only [e2]
      exact hC _ _ _ _ hx
    · cases hx
  · rename_i n
    split
    · rename_i x args ats e
      exact absurd e (n _ _ _)
    · exact xaop_t hx
theorem aop_mono {h : List AObj} {o : Op} {r : Nat → Value} {K K' : Value → List AObj → Prop} (hK : aop P o r h K) (hk : ∀ v h, K v h → K' v h) : aop P o r h K' := by
  by_cases hf : freeOp P o = true
  · obtain ⟨v, a, b⟩ := aop_free hf hK
    exact b h K' (fun _ _ => rfl) (hk _ _ a)
  unfold aop at hK ⊢
  split at hK
  · exact hk _ _ hK
  · exact hk _ _ hK
  · exact absurd rfl hf
  · split at hK
    · exact (hk _ _ hK : aAlloc _ h K')
    · exact hK.elim
  · exact ⟨hK.1, hk _ _ hK.2⟩
  · exact absurd rfl hf
  · split at hK
    · rename_i e0
      try simp only [e0]
      split at hK
      · rename_i e1 e2 e3
        try simp only [e1, e2, e3]
        obtain ⟨c, k1, k2⟩ := pin_aFill _ _ _ hK.2
        exact ⟨hK.1, k2 _ (hk _ _ k1)⟩
      · exact hK.elim
    · exact hK.elim
  · exact absurd rfl hf
  · split at hK
    · rename_i e
      try simp only [e]
      unfold aStore at hK ⊢
      split at hK
      · split at hK
        · rename_i e2
          try simp only [e2]
          exact ⟨hK.1, hK.2.1, hK.2.2.1, hk _ _ hK.2.2.2⟩
        · exact hK.elim
      · exact hK.elim
    · exact hK.elim
  · exact absurd rfl hf
  · exact absurd rfl hf
  · exact absurd rfl hf
  · split at hK
    · rename_i e0
      exact absurd (by simp only [freeOp, e0]) hf
    · rename_i e0
      try simp only [e0]
      split at hK
      · rename_i e1 e2
        try simp only [e1, e2]
        obtain ⟨v, a, b⟩ := pin_aB2S _ hK
        exact b (fun v => K' v h) (hk _ _ a)
      · exact hK.elim
    · exact hK.elim
  · exact absurd rfl hf
  · exact hk _ _ hK
  · split at hK
    · rename_i e0
      try simp only [e0]
      split at hK
      · rename_i e1
        try simp only [e1]
        refine ⟨hK.1, ?_⟩
        have hK := hK.2
        unfold aMkC at hK ⊢
        split at hK
        · exact ⟨hK.1, hk _ _ hK.2⟩
        · exact hK.elim
      · exact hK.elim
    · exact hK.elim
  · split at hK
    · rename_i e0
      try simp only [e0]
      split at hK
      · rename_i e1 e2 e3
        try simp only [e1, e2, e3]
        refine ⟨hK.1, ?_⟩
        have hK := hK.2
        unfold aMkS at hK ⊢
        split at hK
        · exact ⟨hK.1, hK.2.1, hK.2.2.1, hk _ _ hK.2.2.2⟩
        · exact hK.elim
      · exact hK.elim
    · exact hK.elim
  · split at hK
    · rename_i e0
      try simp only [e0]
      split at hK
      · rename_i e1
        try simp only [e1]
        unfold aSl3 at hK ⊢
        split at hK
        · exact ⟨hK.1, hK.2.1, hK.2.2.1, hk _ _ hK.2.2.2⟩
        · exact hK.elim
      · exact hK.elim
    · exact hK.elim
  · split at hK
    · rename_i e0
      try simp only [e0]
      obtain ⟨v, a, b⟩ := pin_aSlStr _ hK
      exact b (fun v => K' v h) (hk _ _ a)
    · rename_i e0
      try simp only [e0]
      split at hK
      · rename_i e1
        try simp only [e1]
        obtain ⟨v, a, b⟩ := pin_aSl2 _ hK
        exact b (fun v => K' v h) (hk _ _ a)
      · exact hK.elim
    · rename_i e0
      try simp only [e0]
      split at hK
      · rename_i e1
        try simp only [e1]
        obtain ⟨v, a, b⟩ := pin_aSlA _ hK
        exact b (fun v => K' v h) (hk _ _ a)
      · exact hK.elim
    · exact hK.elim
  · exact absurd rfl hf
  · exact absurd rfl hf
  · exact absurd rfl hf
  · exact absurd rfl hf
  · exact absurd rfl hf
  · refine ⟨hK.1, ?_⟩
    have hK := hK.2
    unfold aUpd at hK ⊢
    split at hK
    · rename_i e0
      try simp only [e0]
      split at hK
      · rename_i e1
        try simp only [e1]
        exact ⟨hK.1, hK.2.1, hK.2.2.1, hk _ _ hK.2.2.2⟩
      · exact hK.elim
    · exact hK.elim
  · exact absurd rfl hf
  · split at hK
    · exact absurd rfl hf
    · exact absurd rfl hf
    · exact absurd rfl hf
    · exact absurd rfl hf
    · split at hK
      · rename_i e1 e2 _ _ _ _ e3 e4
        try simp only [e1, e2, e3, e4]
        split at hK
        · rename_i e5 e6 e7
          try simp only [e5, e6, e7]
          refine ⟨hK.1, ?_⟩
          have hK := hK.2
          unfold aApp at hK ⊢
          split at hK
          · refine ⟨hK.1, srcCells_mono hK.2 fun ys hy => ?_⟩
            split at hy
            · exact ⟨hy.1, fun e => hk _ _ (hy.2.1 e), fun e => hk _ _ (hy.2.2 e)⟩
            · split at hy
              · rename_i e8
                try simp only [e8]
                refine ⟨hy.1, fun e => ⟨fun e2 => ?_, fun e2 => hk _ _ ((hy.2.1 e).2 e2)⟩, fun e => ?_⟩
                · have := (hy.2.1 e).1 e2
                  exact ⟨this.1, this.2.1, hk _ _ this.2.2⟩
                · have := hy.2.2 e
                  exact ⟨this.1, this.2.1, this.2.2.1, this.2.2.2.1, hk _ _ this.2.2.2.2⟩
              · exact hy.elim
            · exact hy.elim
          · exact hK.elim
        · exact hK.elim
      · rename_i e1 e2 _ _ _ _ _ e3 e4
        try simp only [e1, e2, e3, e4]
        split at hK
        · rename_i e5 e6 e7
          try simp only [e5, e6, e7]
          refine ⟨hK.1, ?_⟩
          have hK := hK.2
          unfold aAppZ at hK ⊢
          split at hK
          · exact ⟨hK.1, fun e => hk _ _ (hK.2.1 e), fun e => hk _ _ (hK.2.2 e)⟩
          · exact hK.elim
        · exact hK.elim
      · exact hK.elim
    · split at hK
      · rename_i e1 e2 _ _ _ _ e3 e4
        try simp only [e1, e2, e3, e4]
        split at hK
        · rename_i e5
          try simp only [e5]
          refine ⟨hK.1, ?_⟩
          have hK := hK.2
          unfold aCopy at hK ⊢
          split at hK
          · refine srcCells_mono hK fun ys hy => ?_
            split at hy
            · exact hk _ _ hy
            · split at hy
              · rename_i e8
                try simp only [e8]
                exact ⟨hy.1, hk _ _ hy.2⟩
              · exact hy.elim
            · exact hy.elim
          · exact hK.elim
        · exact hK.elim
      · exact hK.elim
    · exact hK.elim
  · exact hK.elim
theorem opW_mono {h : List AObj} {o : Oper} {r : Nat → Value} {K K' : Value → List AObj → Prop} (hK : opW P (Good P J) o r h K) (hk : ∀ v h, K v h → K' v h) : opW P (Good P J) o r h K' := by
  unfold opW at hK ⊢
  split at hK
  · rename_i e
    try simp only [e]
    unfold callV at hK ⊢
    split at hK
    · rename_i g first cap e2
      try simp only [e2]
      cases hb : Nat.blt g P.funcs.size with
      | true => rw [hb] at hK; exact Good.mono hK hk
      | false => rw [hb] at hK; exact hK.elim
    · rename_i e2
      try simp only [e2]
      exact Good.mono hK hk
    · exact hK.elim
  · exact aop_mono hK hk
def skOk (sk : List Nat) (dec : Dec) : Prop := ∀ j ∈ sk, dfind j dec = some none
theorem xgd_gd {sk : List Nat} {o : Oper} {r : Nat → Value} {w : Bool} (hg : xgd ops sk o r = some w) : gd ops o r = some w := by
  unfold xgd at hg
  unfold gd
  split at hg
  · rename_i e; rw [e]; exact hg
  · rename_i j want e
    rw [e]
    simp only [bind_dst]
    split at hg
    · rename_i t ht
      rw [ht]
      simp only
      split at hg
      · rename_i e2; rw [e2]; exact hg
      · rename_i e2
        rw [e2]
        cases hs : sk.any fun i => Nat.beq i j with
        | true => rw [hs] at hg; exact hg
        | false => rw [hs] at hg; cases hg
      · cases hg
    · cases hg
theorem goG_ex {sk : List Nat} {dec : Dec} {o : Oper} {f : RG} {w : Bool} (hg : xgd ops sk o f.r = some w) (hd : decOk ops dec f) (hs : skOk sk dec) : ∃ dec', decOk ops dec' f ∧ skOk sk dec' ∧ ∀ A : Bool → Dec → RG → Prop, A w dec' f → goG ops dec o f A := by
  unfold xgd at hg
  unfold goG
  cases hgu : o.guard with
  | none =>
    rw [hgu] at hg
    cases hg
    exact ⟨dec, hd, hs, fun A h => h⟩
  | some jw =>
    obtain ⟨j, want⟩ := jw
    rw [hgu] at hg
    simp only at hg ⊢
    cases hdst : dstOf ops j with
    | none => rw [hdst] at hg; cases hg
    | some t =>
      rw [hdst] at hg
      simp only at hg
      split at hg
      · rename_i b hb
        cases hg
        cases hf : dfind j dec with
        | some b' =>
          obtain ⟨t', h1, h2⟩ := hd j b' hf
          rw [hdst] at h1
          cases h1
          rw [hb] at h2
          cases b' with
          | none => cases h2
          | some b' =>
            cases h2
            exact ⟨dec, hd, hs, fun A h => h⟩
        | none =>
          refine ⟨(j, some b) :: dec, fun i x hi => ?_, fun i hi => ?_, fun A h => ?_⟩
          · unfold dfind at hi
            by_cases e : j = i
            · subst e
              simp at hi
              subst hi
              exact ⟨t, hdst, hb⟩
            · have : (j == i) = false := by simpa using e
              rw [this, cond_false] at hi
              exact hd i x hi
          · have hi' := hs i hi
            unfold dfind
            have : (j == i) = false := by
              have : j ≠ i := fun e => by rw [e] at hf; rw [hf] at hi'; cases hi'
              simpa using this
            rw [this, cond_false]
            exact hi'
          · simp only
            rw [hb]
            cases b with
            | true =>
              show A _ _ (f.p t (.bool true))
              rw [put_self hb]
              exact h
            | false =>
              show A _ _ (f.p t (.bool false))
              rw [put_self hb]
              exact h
      · rename_i hb
        cases hk : sk.any fun i => Nat.beq i j with
        | false => rw [hk] at hg; cases hg
        | true =>
          rw [hk, cond_true] at hg
          cases hg
          obtain ⟨i, hi, e⟩ := List.any_eq_true.1 hk
          have e : i = j := Nat.eq_of_beq_eq_true e
          subst e
          rw [hs i hi]
          exact ⟨dec, hd, hs, fun A h => h⟩
      · cases hg
theorem dfind_drop {d j : Nat} (hj : dstOf ops j ≠ some d) : ∀ {dec : Dec}, dfind j (forget ops (some d) dec) = dfind j dec
  | [] => rfl
  | (i, c) :: l => by
    have ih := dfind_drop hj (dec := l)
    unfold forget at ih ⊢
    simp only [List.filter_cons]
    by_cases e : i = j
    · subst e
      have hne : (dstOf ops i == some d) = false := by simpa using hj
      simp [hne, dfind]
    · have hij : (i == j) = false := by simpa using e
      have e2 : ∀ l' : Dec, dfind j ((i, c) :: l') = dfind j l' := fun l' => by
        show (bif i == j then some c else dfind j l') = _
        rw [hij, cond_false]
      split
      · rw [e2, e2]
        exact ih
      · rw [e2]
        exact ih
theorem skDrop_ok {sk : List Nat} {dec : Dec} {d : Option Nat} (hs : skOk sk dec) : skOk (skDrop ops d sk) (forget ops d dec) := by
  unfold skDrop
  split
  · intro j hj; cases hj
  · exact hs
  · rename_i d _
    intro j hj
    obtain ⟨h1, h2⟩ := List.mem_filter.1 hj
    rw [dfind_drop]
    · exact hs j h1
    · intro e
      rw [e] at h2
      simp at h2
theorem skAdd_ok {sk : List Nat} {dec : Dec} {i : Nat} {d : Option Nat} (hs : skOk sk dec) : skOk (skAdd ops i d sk) (skipD ops i d dec) := by
  cases d with
  | none => exact hs
  | some d =>
    intro j hj
    unfold skipD dfind
    by_cases e : i = j
    · subst e; simp
    · have hij : (i == j) = false := by simpa using e
      rw [hij, cond_false]
      rcases List.mem_cons.1 hj with rfl | hj
      · exact absurd rfl e
      · exact skDrop_ok (d := some d) hs j hj
def LP (ds : List Nat) (K : LB) : RG → List AObj → Prop := fun f h => ∃ l x, f = rgOf l ds ∧ h = hOf x ∧ K l x = true
theorem xops_t (hC : CSound P J C) : ∀ (os : List Nat) {sk : List Nat} {dec : Dec} {l : T Value} {x : XH} {K : LB}, decOk ops dec (rgOf l ds) → skOk sk dec → xops P C N ops os l x sk K = true → opsW P (Good P J) N ops os dec (rgOf l ds) (hOf x) (LP ds K)
  | [], sk, dec, l, x, K, hd, hs, hx => ⟨l, x, rfl, rfl, hx⟩
  | i :: os, sk, dec, l, x, K, hd, hs, hx => by
    change (match ops[i]? with
      | some o => dstOk N o && match xgd ops sk o (gt l) with
        | some true => xopW P C o.op (gt l) x fun v h => xput o.dst v l fun l => xops P C N ops os l h (skDrop ops o.dst sk) K
        | some false => xput o.dst undef l fun l => xops P C N ops os l x (skAdd ops i o.dst sk) K
        | none => false
      | none => false) = true at hx
    unfold opsW
    split at hx
    · rename_i o ho
      rw [ho]
      simp only
      obtain ⟨a, hx⟩ := and_t hx
      rw [a, cond_true]
      split at hx
      · rename_i hg
        obtain ⟨dec', hd', hs', hgo⟩ := goG_ex (f := rgOf l ds) hg hd hs
        refine hgo _ ?_
        rw [cond_true]
        refine opW_mono (xopW_t hC hx) fun v h' hk => ?_
        obtain ⟨x', rfl, hk⟩ := hk
        obtain ⟨l', e, hk⟩ := xput_t (ds := ds) hk
        have hd2 := decOk_put (v := v) (d := o.dst) hd'
        rw [e] at hd2 ⊢
        exact xops_t hC os hd2 (skDrop_ok hs') hk
      · rename_i hg
        obtain ⟨dec', hd', hs', hgo⟩ := goG_ex (f := rgOf l ds) hg hd hs
        refine hgo _ ?_
        rw [cond_false]
        obtain ⟨l', e, hk⟩ := xput_t (ds := ds) hx
        have hd2 := decOk_skip ho hd'
        rw [e] at hd2 ⊢
        exact xops_t hC os hd2 (skAdd_ok hs') hk
      · cases hx
    · cases hx
theorem xany_t (hC : CSound P J C) {B : Option (List Nat)} {x0 : XH} : ∀ (n : Nat) (L : Array Bool) (sok : Bool) (dec : Dec) {sk : List Nat} {l : T Value} {x : XH} {K : LB}, decOk ops dec (rgOf l ds) → skOk sk dec → xany P C N ops B x0 n L sok l x sk K = true → anyW P (Good P J) N ops B (hOf x0) n L sok dec (rgOf l ds) (hOf x) (LP ds K) := by
  intro n
  induction n with
  | zero =>
    intro L sok dec sk l x K hd hs hx
    unfold xany at hx
    unfold anyW
    obtain ⟨a, b⟩ := and_t hx
    rw [a, cond_true]
    exact ⟨l, x, rfl, rfl, b⟩
  | succ n ih =>
    intro L sok dec sk l x K hd hs hx
    unfold xany at hx
    unfold anyW
    split at hx
    · rename_i i hp
      rw [hp]
      simp only
      split at hx
      · rename_i o ho
        rw [ho]
        simp only
        obtain ⟨a, hx⟩ := and_t hx
        rw [a, cond_true]
        obtain ⟨a, a2⟩ := and_t a
        split at hx
        · rename_i hg
          obtain ⟨dec', hd', hs', hgo⟩ := goG_ex (f := rgOf l ds) hg hd hs
          refine hgo _ ?_
          rw [cond_true]
          refine opW_mono (xopW_t hC hx) fun v h' hk => ?_
          obtain ⟨x', _, hk⟩ := hk
          obtain ⟨k1, k2⟩ := and_t hk
          obtain ⟨l', e, hk⟩ := xput_t (ds := ds) k2
          have hd2 := decOk_put (v := v) (d := o.dst) hd'
          rw [e] at hd2 ⊢
          cases hb : isRead o.op && B.isSome with
          | true =>
            rw [cond_true]
            refine ⟨?_, ih _ _ _ hd2 (skDrop_ok hs') hk⟩
            rw [hb] at k1
            exact xrd_t k1
          | false =>
            rw [cond_false]
            exact ih _ _ _ hd2 (skDrop_ok hs') hk
        · rename_i hg
          obtain ⟨dec', hd', hs', hgo⟩ := goG_ex (f := rgOf l ds) hg hd hs
          refine hgo _ ?_
          rw [cond_false]
          obtain ⟨l', e, hk⟩ := xput_t (ds := ds) hx
          have hd2 := decOk_skip ho hd'
          rw [e] at hd2 ⊢
          exact ih _ _ _ hd2 (skAdd_ok hs') hk
        · cases hx
      · cases hx
    · rename_i hp
      rw [hp]
      simp only
      cases he : (Region.ready .any ops L).isEmpty with
      | true =>
        rw [he, cond_true] at hx
        rw [cond_true]
        exact ⟨l, x, rfl, rfl, hx⟩
      | false =>
        rw [he, cond_false] at hx
        rw [cond_false]
        refine allOf_t _ hx fun i hx => ?_
        split at hx
        · rename_i o ho
          rw [ho]
          simp only
          obtain ⟨a, hx⟩ := and_t hx
          rw [a, cond_true]
          split at hx
          · rename_i hg
            obtain ⟨dec', hd', hs', hgo⟩ := goG_ex (f := rgOf l ds) hg hd hs
            refine hgo _ ?_
            rw [cond_true]
            refine opW_mono (xopW_t hC hx) fun v h' hk => ?_
            obtain ⟨x', rfl, hk⟩ := hk
            have hd2 := decOk_put (v := v) (d := o.dst) hd'
            cases hn : sNeed P ops i o with
            | true =>
              simp only [hn, cond_true] at hk
              rw [cond_true]
              obtain ⟨k1, k2⟩ := and_t hk
              obtain ⟨l', e, hk⟩ := xput_t (ds := ds) k2
              rw [e] at hd2 ⊢
              exact ⟨xsame_t k1, ih _ _ _ hd2 (skDrop_ok hs') hk⟩
            | false =>
              simp only [hn, cond_false] at hk
              rw [cond_false]
              obtain ⟨l', e, hk⟩ := xput_t (ds := ds) hk
              rw [e] at hd2 ⊢
              exact ih _ _ _ hd2 (skDrop_ok hs') hk
          · rename_i hg
            obtain ⟨dec', hd', hs', hgo⟩ := goG_ex (f := rgOf l ds) hg hd hs
            refine hgo _ ?_
            rw [cond_false]
            obtain ⟨k1, k2⟩ := and_t hx
            have k1 : (sNeed P ops i o && !sok) = false := by
              cases hs : sNeed P ops i o && !sok with
              | false => rfl
              | true => rw [hs] at k1; cases k1
            rw [k1, cond_false]
            obtain ⟨l', e, hk⟩ := xput_t (ds := ds) k2
            have hd2 := decOk_skip ho hd'
            rw [e] at hd2 ⊢
            exact ih _ _ _ hd2 (skAdd_ok hs') hk
          · cases hx
        · cases hx
theorem anyW_rd {o : Oper} {R : List Nat} {r : Nat → Value} {A : List Nat → Prop} (h : ∃ B, (∀ b ∈ (readOf o.op r).toList ++ R, b ∈ B) ∧ A B) : ∃ B, (∀ b ∈ R, b ∈ B) ∧ RdOk (some B) (readOf o.op r) ∧ A B := by
  obtain ⟨B, h1, h2⟩ := h
  refine ⟨B, fun b hb => h1 b (by simp [hb]), ?_, h2⟩
  unfold RdOk
  cases hr : readOf o.op r with
  | none => trivial
  | some b => exact h1 b (by simp [hr])
theorem xpre_t (hC : CSound P J C) : ∀ (n : Nat) (L : Array Bool) (R : List Nat) (dec : Dec) {sk : List Nat} {l : T Value} {x : XH} {K : LB}, decOk ops dec (rgOf l ds) → skOk sk dec → xpre P C N ops n L R l x sk K = true →
    ∃ B, (∀ b ∈ R, b ∈ B) ∧ anyW P (Good P J) N ops (some B) (hOf x) n L true dec (rgOf l ds) (hOf x) (LP ds K) := by
  intro n
  induction n with
  | zero =>
    intro L R dec sk l x K hd hs hx
    exact ⟨R, fun b hb => hb, xany_t hC 0 L true dec hd hs hx⟩
  | succ n ih =>
    intro L R dec sk l x K hd hs hx
    unfold xpre at hx
    split at hx
    · rename_i i hp
      split at hx
      · rename_i o ho
        obtain ⟨a, hx⟩ := and_t hx
        have hfr : isFree P o = true := by
          have := List.find?_some hp
          rw [ho] at this
          simp only [Bool.and_eq_true] at this
          exact this.1
        split at hx
        · rename_i hg
          have hgd := xgd_gd hg
          obtain ⟨v, hv, hrep⟩ := opG_free (C := Good P J) (ops := ops) (r := gt l) hfr (by unfold opG; rw [hgd]; exact xopW_t hC hx)
          obtain ⟨x', hxx, hv⟩ := hv
          obtain ⟨l', e, hk⟩ := xput_t (ds := ds) hv
          obtain ⟨dec', hd', hs', hgo⟩ := goG_ex (f := rgOf l ds) hg hd hs
          have hd2 := decOk_put (v := v) (d := o.dst) hd'
          rw [e] at hd2
          obtain ⟨B, b1, b2⟩ := ih (L.setIfInBounds i true) ((readOf o.op (gt l)).toList ++ R) _ hd2 (skDrop_ok hs') hk
          obtain ⟨B, c1, c2, c3⟩ := anyW_rd (A := fun B => anyW P (Good P J) N ops (some B) (hOf x) n (L.setIfInBounds i true) true (forget ops o.dst dec') (rgOf l' ds) (hOf x) (LP ds K)) ⟨B, b1, b2⟩
          refine ⟨B, c1, ?_⟩
          unfold anyW
          rw [hp]
          simp only [ho]
          rw [a]
          simp only [Bool.or_true, Bool.and_true, cond_true]
          refine hgo _ ?_
          simp only [cond_true]
          have := hrep (hOf x) (fun v _ => bif isRead o.op && (some B).isSome then RdOk (some B) (readOf o.op (gt l)) ∧ anyW P (Good P J) N ops (some B) (hOf x) n (L.setIfInBounds i true) true (forget ops o.dst dec') ((rgOf l ds).putO o.dst v) (hOf x) (LP ds K) else anyW P (Good P J) N ops (some B) (hOf x) n (L.setIfInBounds i true) true (forget ops o.dst dec') ((rgOf l ds).putO o.dst v) (hOf x) (LP ds K)) (fun _ _ => rfl) (by
            rw [e]
            cases isRead o.op with
            | true => exact ⟨c2, c3⟩
            | false => exact c3)
          unfold opG at this
          rw [hgd] at this
          exact this
        · rename_i hg
          obtain ⟨l', e, hk⟩ := xput_t (ds := ds) hx
          obtain ⟨dec', hd', hs', hgo⟩ := goG_ex (f := rgOf l ds) hg hd hs
          have hd2 := decOk_skip ho hd'
          rw [e] at hd2
          obtain ⟨B, b1, b2⟩ := ih (L.setIfInBounds i true) R _ hd2 (skAdd_ok hs') hk
          refine ⟨B, b1, ?_⟩
          unfold anyW
          rw [hp]
          simp only [ho]
          rw [a]
          simp only [Bool.or_true, Bool.and_true, cond_true]
          refine hgo _ ?_
          simp only [cond_false]
          rw [e]
          exact b2
        · cases hx
      · cases hx
    · exact ⟨R, fun b hb => hb, xany_t hC (n + 1) L true dec hd hs hx⟩
theorem xdraw_t (hC : CSound P J C) {l : T Value} {x : XH} {K : LB} (hx : xdraw P C N ops l x K = true) : drawW P (Good P J) N ops (rgOf l ds) (hOf x) (LP ds K) := by
  unfold xdraw at hx
  unfold drawW
  have h0 : skOk [] [] := fun j hj => by cases hj
  cases hs : still P ops with
  | true =>
    rw [hs, cond_true] at hx
    rw [cond_true]
    exact xany_t hC _ _ _ _ (fun j b e => by cases e) h0 hx
  | false =>
    rw [hs, cond_false] at hx
    rw [cond_false]
    obtain ⟨B, _, hB⟩ := xpre_t (ds := ds) hC _ _ _ [] (fun j b e => by cases e) h0 hx
    exact ⟨B, hB⟩
end
abbrev QB := Exit → T Value → List Nat → XH → Bool
noncomputable def xjump (pend : Option Code) (Q : QB) (l : T Value) (ds : List Nat) (h : XH) : Bool :=
  match pend with
  | none => Q .normal l ds h
  | some .ret => Q .ret l ds h
  | some (.exit id) => Q (.exit id) l ds h
  | _ => false
noncomputable def seqQ (Q : QB) (k : T Value → List Nat → XH → Bool) : QB := fun e l ds h =>
  match e with
  | .normal => k l ds h
  | e => Q e l ds h
noncomputable def blkQ (id : Nat) (Q : QB) : QB := fun e l ds h =>
  match e with
  | .exit i => bif i == id then Q .normal l ds h else Q (.exit i) l ds h
  | e => Q e l ds h
noncomputable def xcnd (v : Value) (a b : Bool) : Bool :=
  match v with
  | .bool true => a
  | .bool false => b
  | _ => false
noncomputable def xrange (P : Program) (C : CB) (N fn : Nat) (v : Value) (params : Array Tmp) (assign body : Code) (l : T Value) (ds : List Nat) (x : XH) (Q : QB) : Bool :=
  match v with
  | .func (.func g) ⟨first⟩ ⟨cap⟩ => (Nat.blt fn 1000000 && Nat.blt g P.funcs.size) && hpush x .deferred fun h => hpush h (.loop .ready none fn (gt l) N params assign body x.n) fun y =>
      C g (first ++ [.func (.yield (x.n + 1)) ⟨[]⟩ ⟨[]⟩] ++ cap) y fun _ h' => hg h' (x.n + 1) fun o =>
        match o with
        | .loop st pend _ _ _ _ _ _ _ => !(st == .busy) && hset h' (x.n + 1) .dead fun h' => xjump pend Q l (x.n :: ds) h'
        | _ => false
  | _ => false
def ordF (P : Program) (ops : Array Oper) : Nat → Array Bool → List Nat
  | 0, _ => []
  | n + 1, L => match pickN P ops L with
    | some i => i :: ordF P ops n (L.setIfInBounds i true)
    | none => match Region.ready .any ops L with
      | [] => []
      | i :: _ => i :: ordF P ops n (L.setIfInBounds i true)
def multi (P : Program) (ops : Array Oper) : Nat → Array Bool → Bool
  | 0, _ => false
  | n + 1, L => match pickN P ops L with
    | some i => multi P ops n (L.setIfInBounds i true)
    | none => match Region.ready .any ops L with
      | [] => false
      | [i] => multi P ops n (L.setIfInBounds i true)
      | _ => true
def blkV : Value → Option Nat
  | .pointer (some a) => some a.block
  | .slice (some a) _ _ => some a.block
  | .map (some b) => some b
  | _ => none
def sg : List (Nat × Nat) → Nat → Nat
  | [], b => b
  | (a, c) :: l, b => bif Nat.beq a b then c else sg l b
def swp (l : List (Nat × Nat)) : List (Nat × Nat) := l.map fun p => (p.2, p.1)
def addP (n0 : Nat) (a b : Value) (acc : List (Nat × Nat)) (k : List (Nat × Nat) → Bool) : Bool :=
  match blkV a, blkV b with
  | some x, some y => bif Nat.ble n0 x && !(acc.any fun p => Nat.beq p.1 x) then fN x fun x => fN y fun y => k ((x, y) :: acc) else k acc
  | _, _ => k acc
noncomputable def prs (n0 : Nat) : T Value → T Value → List (Nat × Nat) → (List (Nat × Nat) → Bool) → Bool
  | .node a l r, .node b l' r', acc, k => addP n0 a b acc fun acc => prs n0 l l' acc fun acc => prs n0 r r' acc k
  | _, _, acc, k => k acc
noncomputable def simT (σ : Nat → Nat) : T Value → T Value → Bool
  | .nil, .nil => true
  | .node a l r, .node b l' r' => simV σ a b && simT σ l l' && simT σ r r'
  | _, _ => false
def isDead : AObj → Bool
  | .dead => true
  | _ => false
noncomputable def xsim (n0 : Nat) (l1 : T Value) (x1 : XH) (l2 : T Value) (x2 : XH) : Bool :=
  prs n0 l1 l2 [] fun s => (s.all fun p => Nat.ble n0 p.1) && simT (sg s) l1 l2 &&
    (List.range x1.n).all fun i => (Nat.beq (sg (swp s) (sg s i)) i) && ((isDead (tget .dead x1.t i)) || hg x2 (sg s i) fun o => simO (sg s) (tget .dead x1.t i) o)
noncomputable def xjoin (P : Program) (C : CB) (N : Nat) (ops : Array Oper) (l : T Value) (x : XH) (k : T Value → XH → Bool) : Bool :=
  xops P C N ops (ordF P ops ops.size (Array.replicate ops.size false)) l x [] fun l1 x1 => xdraw P C N ops l x (fun l2 x2 => xsim x.n l1 x1 l2 x2) && k l1 x1
def joinOf (P : Program) : Code → Option (Array Oper)
  | .region _ ops true => bif multi P ops ops.size (Array.replicate ops.size false) then some ops else none
  | _ => none
noncomputable def xseq (P : Program) (C : CB) (N : Nat) (a : Code) (ra rb : T Value → List Nat → XH → QB → Bool) (l : T Value) (ds : List Nat) (h : XH) (Q : QB) : Bool :=
  match joinOf P a with
  | some ops => xjoin P C N ops l h fun l h => rb l ds h Q
  | none => ra l ds h (seqQ Q fun l ds h => rb l ds h Q)
noncomputable def xC (P : Program) (C : CB) (N fn : Nat) (lp : Code → T Value → List Nat → XH → QB → Bool) (c : Code) : T Value → List Nat → XH → QB → Bool :=
  Code.rec (motive := fun _ => T Value → List Nat → XH → QB → Bool)
    (fun l ds h Q => Q .normal l ds h)
    (fun _ ops draw l ds h Q => bif draw then xdraw P C N ops l h fun l h => Q .normal l ds h else xops P C N ops (List.range ops.size) l h [] fun l h => Q .normal l ds h)
    (fun a _ iha ihb l ds h Q => xseq P C N a iha ihb l ds h Q)
    (fun c _ _ iha ihb l ds h Q => xcnd (ev (gt l) c) (iha l ds h Q) (ihb l ds h Q))
    (fun id _ ih l ds h Q => ih l ds h (blkQ id Q))
    (fun b _ l ds h Q => lp b l ds h Q)
    (fun fop params assign body _ _ l ds h Q => xrange P C N fn (ev (gt l) fop) params assign body l ds h Q)
    (fun id l ds h Q => Q (.exit id) l ds h)
    (fun _ ih l ds h Q => ih l ds h Q)
    (fun _ l ds h Q => Q .normal l ds h)
    (fun _ _ _ _ _ => false)
    (fun l ds h Q => Q .ret l ds h)
    (fun _ _ _ _ _ => false) c
noncomputable def xtake : List Nat → XH → (XH → Bool) → Bool
  | [], h, K => K h
  | d :: ds, h, K => hg h d fun o => match o with
    | .deferred => hset h d .dead fun h => xtake ds h K
    | _ => false
def isU : Value → Bool
  | .tuple ⟨[.tuple ⟨[]⟩]⟩ => true
  | _ => false
noncomputable def xres (P : Program) : List ResultVar → (Nat → Value) → XH → (List Value → Bool) → Bool
  | [], _, _, K => K []
  | .tmp t :: rs, r, h, K => fV (r t) fun v => !isU v && xres P rs r h fun vs => K (v :: vs)
  | .cell a t :: rs, r, h, K => match tk P t with
    | some (g, s) => xLoad g s (r a) h fun v => xres P rs r h fun vs => K (v :: vs)
    | none => false
noncomputable def xputs : T Value → List Nat → List Value → (T Value → Bool) → Bool
  | l, t :: ts, v :: vs, K => tset unk 9 l t v fun l => xputs l ts vs K
  | l, _, _, K => K l
noncomputable def xroundC (l : Nat) (K : KB) (e : Exit) (h : XH) (o : AObj) : Bool :=
  match o with
  | .loop _ _ fn r size params assign body dfr =>
    match e with
    | .normal => hset h l (.loop .ready none fn r size params assign body dfr) fun h => K (.bool true) h
    | .exit id => hset h l (.loop .done (some (.exit id)) fn r size params assign body dfr) fun h => K (.bool false) h
    | .ret => hset h l (.loop .done (some .ret) fn r size params assign body dfr) fun h => K (.bool false) h
    | _ => false
  | _ => false
noncomputable def xround (l : Nat) (K : KB) : QB := fun e _ _ h => hg h l (xroundC l K e h)
noncomputable def xret (P : Program) (rs : List ResultVar) (K : KB) : QB := fun e l ds h =>
  match e with
  | .normal | .ret => xtake ds h fun h => xres P rs (gt l) h fun vs => K (pack vs) h
  | _ => false
noncomputable def regT (r : Nat → Value) : Nat → (T Value → Bool) → Bool
  | 0, k => k .nil
  | n + 1, k => regT r n fun l => fV (r n) fun v => tset unk 9 l n v k
noncomputable def xenter (P : Program) (C : CB) (lp : Nat → Nat → Code → T Value → List Nat → XH → QB → Bool) (g : FuncId) (args : List Value) (h : XH) (K : KB) (fn : Func) : Bool :=
  match fn.body with
  | some c => (Nat.ble args.length fn.ntmps && !(fn.name == "runtime.NumGoroutine")) && xputs .nil (List.range args.length) args fun l =>
    xC P C fn.ntmps g (lp fn.ntmps g) c l [] h (xret P fn.results.toList K)
  | none => false
noncomputable def xinto (P : Program) (C : CB) (lp : Nat → Nat → Code → T Value → List Nat → XH → QB → Bool) (l : Nat) (args : List Value) (h : XH) (K : KB) (o : AObj) : Bool :=
  match o with
  | .loop .ready _ fn r size params assign body _ => (params.size == args.length && params.toList.all fun t => Nat.blt t size) && regT r size fun t => xputs t params.toList args fun t =>
    xC P C size (fn + 1000000) (lp size (fn + 1000000)) assign t [] h fun e t ds h =>
      match e, ds with
      | .normal, [] => hg h l fun o => match o with
        | .loop .ready pend fn' r' size' params' assign' body' dfr' => hset h l (.loop .busy pend fn' r' size' params' assign' body' dfr') fun h =>
          xC P C size (fn + 1000000) (lp size (fn + 1000000)) body t [] h (xround l K)
        | _ => false
      | _, _ => false
  | _ => false
mutual
/-- A call. -/
noncomputable def xcall (P : Program) : Nat → CB
  | 0, _, _, _, _ => false
  | n + 1, g, args, h, K =>
    match P.funcs[g]? with
    | some fn => xenter P (xcall P n) (xloop P n) g args h K fn
    | none => Nat.ble P.funcs.size g && hg h (g - P.funcs.size) (xinto P (xcall P n) (xloop P n) (g - P.funcs.size) args h K)
/-- A loop. -/
noncomputable def xloop (P : Program) : Nat → Nat → Nat → Code → T Value → List Nat → XH → QB → Bool
  | 0, _, _, _, _, _, _, _ => false
  | n + 1, N, fn, b, l, ds, h, Q => xC P (xcall P n) N fn (xloop P n N fn) b l ds h (seqQ Q fun l ds h => xloop P n N fn b l ds h Q)
end
def JF : JT := fun _ _ _ => False
theorem closedF (P : Program) (main : Bool) : Closed P main JF where
  rely := fun h _ => h
  step := fun _ h => by
    obtain ⟨_, _, _, _, _, _, h⟩ := h _ (RelyW.refl _ _)
    exact h
section
variable {P : Program} {main : Bool} {J : JT} {C : CB} {N n0 : Nat} {ds : List Nat} {fn : FuncId} {ops : Array Oper}
def QP (Q : QB) : QT := fun e f h => ∃ l ds x, f = rgOf l ds ∧ h = hOf x ∧ Q e l ds x = true
theorem xjump_t {pend : Option Code} {Q : QB} {l : T Value} {ds : List Nat} {x : XH} (hx : xjump pend Q l ds x = true) : jumpQ pend (QP Q) ⟨gt l, ds⟩ (hOf x) := by
  unfold xjump at hx
  unfold jumpQ
  split at hx
  · exact ⟨l, ds, x, rfl, rfl, hx⟩
  · exact ⟨l, ds, x, rfl, rfl, hx⟩
  · exact ⟨l, ds, x, rfl, rfl, hx⟩
  · cases hx
def LSound (J : JT) (N n0 : Nat) (fn : FuncId) (lp : Code → T Value → List Nat → XH → QB → Bool) : Prop := ∀ b l ds x Q, lp b l ds x Q = true → Sem J N n0 fn (.loop b) (rgOf l ds) (hOf x) (QP Q)
theorem first_run (hC : CSound P JF C) {todo : List Nat} {l : T Value} {x : XH} {K : LB} (hx : xops P C N ops todo l x [] K = true) {ρ : Env} {FC : Frm} {w : World} {ft : Foot} {a : Act}
    (A : ActRel (hOf x).length ρ N (rgOf l ds) a) (H : HRel ρ (hOf x) FC w ft) : ∃ l1 x1, K l1 x1 = true ∧ heapOk (hOf x1) ∧ (∀ t, gt l1 t = unk ∨ VOk (hOf x1).length (gt l1 t)) ∧ (hOf x).length ≤ (hOf x1).length := by
  have hs := SemOps_of (J := JF) (N := N) (n0 := (hOf x).length) (fn := 0) (Q := fun e f h => e = .normal ∧ LP ds K f h) (closedF P true) todo (dec := []) (fun j b e => by cases e) (by simpa using xops_t (ds := ds) hC todo (fun j b e => by cases e) (fun j hj => by cases hj) hx)
  refine Classical.byContradiction fun hn => ?_
  refine hs ⟨0, .normal, none⟩ a [] [] (fun _ _ _ _ => False) ρ FC w ft rfl (by simp) (fun _ _ _ _ _ z _ => z.elim) A H (Nat.le_refl _) ?_
  intro e f' h' ρ' w' ft' a' q A' H' hu hl
  obtain ⟨rfl, l1, x1, rfl, rfl, hk⟩ := q
  exact hn ⟨l1, x1, hk, H'.ok, fun t => (A'.regs t).imp id fun z => z.1, hl⟩
theorem simT_t {σ : Nat → Nat} : ∀ {l1 l2 : T Value}, simT σ l1 l2 = true → ∀ t, gt l2 t = sub σ (gt l1 t)
  | .nil, .nil, _, t => by simp [gt, tget_nil, sub_undef]
  | .node a l r, .node b l' r', hx, t => by
    unfold simT at hx
    obtain ⟨x, y⟩ := and_t hx
    obtain ⟨x, z⟩ := and_t x
    cases t with
    | zero => exact simV_t x
    | succ t =>
      unfold gt
      rw [tget_node, tget_node]
      split
      · exact simT_t z _
      · exact simT_t y _
  | .nil, .node b l' r', hx, t => by cases hx
  | .node a l r, .nil, hx, t => by cases hx
theorem addP_ex {n0 : Nat} {a b : Value} {acc : List (Nat × Nat)} {k : List (Nat × Nat) → Bool} (hx : addP n0 a b acc k = true) : ∃ s, k s = true := by
  unfold addP at hx
  split at hx
  · rename_i x y _ _
    cases hc : (Nat.ble n0 x && !(acc.any fun p => Nat.beq p.1 x)) with
    | true =>
      rw [hc, cond_true, fN_eq, fN_eq] at hx
      exact ⟨_, hx⟩
    | false =>
      rw [hc, cond_false] at hx
      exact ⟨_, hx⟩
  · exact ⟨_, hx⟩
theorem prs_ex {n0 : Nat} : ∀ (l1 l2 : T Value) {acc : List (Nat × Nat)} {k : List (Nat × Nat) → Bool}, prs n0 l1 l2 acc k = true → ∃ s, k s = true
  | .node a l r, .node b l' r', acc, k, hx => by
    unfold prs at hx
    obtain ⟨s1, hx⟩ := addP_ex hx
    obtain ⟨s2, hx⟩ := prs_ex l l' hx
    exact prs_ex r r' hx
  | .nil, l2, acc, k, hx => by
    unfold prs at hx
    exact ⟨_, hx⟩
  | .node a l r, .nil, acc, k, hx => by
    unfold prs at hx
    exact ⟨_, hx⟩
theorem sg_same {n : Nat} : ∀ {s : List (Nat × Nat)}, (s.all fun p => Nat.ble n p.1) = true → Same n (sg s)
  | [], _, b, _ => rfl
  | (a, c) :: l, hx, b, hb => by
    simp only [List.all_cons, Bool.and_eq_true] at hx
    have := ble_t hx.1
    unfold sg
    have hne : Nat.beq a b = false := by
      cases h : Nat.beq a b with
      | false => rfl
      | true => have := Nat.eq_of_beq_eq_true h; omega
    rw [hne, cond_false]
    exact sg_same hx.2 b hb
theorem xsim_t {n0 n1 : Nat} {l1 l2 : T Value} {x1 x2 : XH} (hx : xsim n1 l1 x1 l2 x2 = true) (ok : heapOk (hOf x1)) (hr : ∀ t, gt l1 t = unk ∨ VOk (hOf x1).length (gt l1 t)) (hn : n0 ≤ n1) (hl : n1 ≤ (hOf x1).length) (hd : ∀ d ∈ ds, d < n1) :
    ∃ σ, GCR n0 σ (rgOf l2 ds) (hOf x2) (rgOf l1 ds) (hOf x1) := by
  unfold xsim at hx
  obtain ⟨s, hx⟩ := prs_ex l1 l2 hx
  obtain ⟨a, b⟩ := and_t hx
  obtain ⟨a1, a2⟩ := and_t a
  have hs := sg_same a1
  have hb : ∀ i, i < x1.n → sg (swp s) (sg s i) = i ∧ (isDead (tget .dead x1.t i) = true ∨ hg x2 (sg s i) (fun o => simO (sg s) (tget .dead x1.t i) o) = true) := by
    intro i hi
    have := List.all_eq_true.1 b i (List.mem_range.2 hi)
    obtain ⟨p, q⟩ := and_t this
    exact ⟨Nat.eq_of_beq_eq_true p, by simpa using q⟩
  have hat : ∀ {i : Nat} {o : AObj}, (hOf x1)[i]? = some o → i < x1.n ∧ o = tget .dead x1.t i := by
    intro i o hi
    have hlt := (List.getElem?_eq_some_iff.1 hi).1
    rw [hOf_len] at hlt
    refine ⟨hlt, ?_⟩
    unfold hOf at hi
    rw [List.getElem?_map, List.getElem?_range hlt] at hi
    simpa using hi.symm
  refine ⟨sg s, ⟨Nat.le_trans hn hl, fun b hb => hs b (Nat.lt_of_lt_of_le hb hn), fun i o hi => ?_, fun i j o o' hi hj _ _ e => ?_, ok⟩, fun t => ?_, ?_, fun b hb => Nat.lt_of_lt_of_le (hd b hb) hl⟩
  · obtain ⟨hlt, rfl⟩ := hat hi
    rcases (hb i hlt).2 with h | h
    · left
      unfold isDead at h
      split at h
      · assumption
      · cases h
    · obtain ⟨o, ho, h⟩ := hg_t h
      right
      rw [ho, (simO_t h).1]
  · have h1 := (hb i (hat hi).1).1
    have h2 := (hb j (hat hj).1).1
    rw [← h1, ← h2, e]
  · rcases hr t with h | h
    · exact .inl h
    · exact .inr ⟨simT_t a2 t, h⟩
  · show ds = ds.map (sg s)
    exact ((List.map_congr_left fun d hd' => hs d (hd d hd')).trans (List.map_id _)).symm
theorem joinOf_t {a : Code} {ops : Array Oper} (h : joinOf P a = some ops) : ∃ id, a = .region id ops true := by
  unfold joinOf at h
  split at h
  · rename_i id ops'
    cases hm : multi P ops' ops'.size (Array.replicate ops'.size false) with
    | true => rw [hm] at h; cases h; exact ⟨id, rfl⟩
    | false => rw [hm] at h; cases h
  · cases h
theorem xjoin_t (hJ : Closed P main J) (hm : P.follows .mixedOrders = true) (hC : CSound P J C) (hC0 : CSound P JF C) {id : Nat} {b : Code} {l : T Value} {x : XH} {k : T Value → XH → Bool} {Q : QT} (hx : xjoin P C N ops l x k = true)
    (hb : ∀ l x, k l x = true → Sem J N n0 fn b (rgOf l ds) (hOf x) Q) : Sem J N n0 fn (.seq (.region id ops true) b) (rgOf l ds) (hOf x) Q := by
  intro b' a' k' cs' L' ρ FC w ft g1 g2 g3 g4 g5 g6 gc
  unfold xjoin at hx
  obtain ⟨l1, x1, hk, ok, hr, hl⟩ := first_run (ds := ds) hC0 hx g4 g5
  obtain ⟨k1, k2⟩ := and_t hk
  have hs : Sem J N n0 fn (.seq (.region id ops true) b) (rgOf l ds) (hOf x) Q := by
    refine Sem_seq hJ ((Sem_region_draw hJ hm (Q := fun e f h => e = .normal ∧ LP ds (fun l2 x2 => xsim x.n l1 x1 l2 x2) f h) (by simpa using xdraw_t (ds := ds) hC k1)).mono ?_)
    rintro e f h ⟨rfl, l2, x2, rfl, rfl, hsim⟩
    rw [hOf_len] at hl g6
    obtain ⟨σ, hg⟩ := xsim_t (ds := ds) hsim ok hr g6 hl (fun d hd => by
      have := g4.ok d hd
      rw [hOf_len] at this
      exact this)
    exact Sem.gc hg (hb l1 x1 k2)
  exact hs b' a' k' cs' L' ρ FC w ft g1 g2 g3 g4 g5 g6 gc
theorem xseq_t (hJ : Closed P main J) (hm : P.follows .mixedOrders = true) (hC : CSound P J C) (hC0 : CSound P JF C) {a b : Code} {ra rb : T Value → List Nat → XH → QB → Bool}
    (ha : ∀ l ds x Q, ra l ds x Q = true → Sem J N n0 fn a (rgOf l ds) (hOf x) (QP Q)) (hb : ∀ l ds x Q, rb l ds x Q = true → Sem J N n0 fn b (rgOf l ds) (hOf x) (QP Q)) {l : T Value} {ds : List Nat} {x : XH} {Q : QB} (hx : xseq P C N a ra rb l ds x Q = true) :
    Sem J N n0 fn (.seq a b) (rgOf l ds) (hOf x) (QP Q) := by
  unfold xseq at hx
  split at hx
  · rename_i ops hj
    obtain ⟨id, rfl⟩ := joinOf_t hj
    exact xjoin_t hJ hm hC hC0 hx fun l x hk => hb l ds x Q hk
  · refine Sem_seq hJ ((ha l ds x _ hx).mono fun e f h q => ?_)
    obtain ⟨l', ds', x', rfl, rfl, hq⟩ := q
    cases e with
    | normal => exact hb _ _ _ _ hq
    | _ => exact ⟨l', ds', x', rfl, rfl, hq⟩
theorem xC_t (hJ : Closed P main J) (hm : P.follows .mixedOrders = true) (hC : CSound P J C) (hC0 : CSound P JF C) {lp : Code → T Value → List Nat → XH → QB → Bool} (hL : LSound J N n0 fn lp) : ∀ (c : Code) (l : T Value) (ds : List Nat) (x : XH) (Q : QB), xC P C N fn lp c l ds x Q = true → Sem J N n0 fn c (rgOf l ds) (hOf x) (QP Q)
  | .skip, l, ds, x, Q, hx => Sem_skip hJ ⟨l, ds, x, rfl, rfl, hx⟩
  | .label _, l, ds, x, Q, hx => Sem_label hJ ⟨l, ds, x, rfl, rfl, hx⟩
  | .ret, l, ds, x, Q, hx => Sem_ret ⟨l, ds, x, rfl, rfl, hx⟩
  | .exit id, l, ds, x, Q, hx => Sem_exit hJ ⟨l, ds, x, rfl, rfl, hx⟩
  | .seq a b, l, ds, x, Q, hx => xseq_t hJ hm hC hC0 (ra := xC P C N fn lp a) (rb := xC P C N fn lp b) (fun l ds x Q h => xC_t hJ hm hC hC0 hL a l ds x Q h) (fun l ds x Q h => xC_t hJ hm hC hC0 hL b l ds x Q h) hx
  | .cond c a b, l, ds, x, Q, hx => by
    change xcnd (ev (gt l) c) (xC P C N fn lp a l ds x Q) (xC P C N fn lp b l ds x Q) = true at hx
    unfold xcnd at hx
    split at hx
    · rename_i e
      exact Sem_cond hJ (t := true) e (by simpa using xC_t hJ hm hC hC0 hL a l ds x Q hx)
    · rename_i e
      exact Sem_cond hJ (t := false) e (by simpa using xC_t hJ hm hC hC0 hL b l ds x Q hx)
    · cases hx
  | .block id a, l, ds, x, Q, hx => by
    refine Sem_block hJ ((xC_t hJ hm hC hC0 hL a l ds x (blkQ id Q) hx).mono fun e f h q => ?_)
    obtain ⟨l', ds', x', rfl, rfl, hq⟩ := q
    cases e with
    | exit i =>
      unfold blkQ at hq
      simp only at hq
      unfold blockK
      simp only
      cases hi : i == id with
      | true => rw [hi, cond_true] at hq; exact ⟨l', ds', x', rfl, rfl, hq⟩
      | false => rw [hi, cond_false] at hq; exact ⟨l', ds', x', rfl, rfl, hq⟩
    | _ => exact ⟨l', ds', x', rfl, rfl, hq⟩
  | .scope a, l, ds, x, Q, hx => Sem_scope hJ (xC_t hJ hm hC hC0 hL a l ds x Q hx)
  | .region id ops draw, l, ds, x, Q, hx => by
    change (bif draw then xdraw P C N ops l x fun l x => Q .normal l ds x else xops P C N ops (List.range ops.size) l x [] fun l x => Q .normal l ds x) = true at hx
    cases draw with
    | true =>
      rw [cond_true] at hx
      refine (Sem_region_draw hJ hm (Q := fun e f h => e = .normal ∧ LP ds (fun l x => Q .normal l ds x) f h) ?_).mono ?_
      · simpa using xdraw_t (ds := ds) hC hx
      · rintro e f h ⟨rfl, l', x', rfl, rfl, hq⟩
        exact ⟨l', ds, x', rfl, rfl, hq⟩
    | false =>
      rw [cond_false] at hx
      refine (Sem_region_text hJ (Q := fun e f h => e = .normal ∧ LP ds (fun l x => Q .normal l ds x) f h) ?_).mono ?_
      · simpa using xops_t (ds := ds) hC (List.range ops.size) (dec := []) (fun j b e => by cases e) (fun j hj => by cases hj) hx
      · rintro e f h ⟨rfl, l', x', rfl, rfl, hq⟩
        exact ⟨l', ds, x', rfl, rfl, hq⟩
  | .loop b, l, ds, x, Q, hx => hL b l ds x Q hx
  | .rangeFunc fop params assign body, l, ds, x, Q, hx => by
    change xrange P C N fn (ev (gt l) fop) params assign body l ds x Q = true at hx
    unfold xrange at hx
    split at hx
    · rename_i g first cap e
      obtain ⟨a, hx⟩ := and_t hx
      obtain ⟨a1, a2⟩ := and_t a
      obtain ⟨y1, e1, hx⟩ := hpush_t hx
      obtain ⟨y2, e2, hx⟩ := hpush_t hx
      have hg := hC _ _ _ _ hx
      rw [← e2, ← e1, ← hOf_len x] at hg
      refine Sem_range hJ (blt_t a1) (f := rgOf l ds) e (blt_t a2) (hg.mono fun v h' hk => ?_)
      obtain ⟨x', rfl, hk⟩ := hk
      obtain ⟨o, ho, hk⟩ := hg_t hk
      split at hk
      · rename_i st pend fn' r size params' assign' body' dfr
        obtain ⟨k1, k2⟩ := and_t hk
        obtain ⟨y, ey, k2⟩ := hset_t k2
        refine ⟨st, pend, fn', r, size, params', assign', body', dfr, ho, fun e => ?_, ?_⟩
        · subst e
          cases k1
        · rw [ey]
          exact xjump_t k2
      · cases hk
    · cases hx
  | .goto _, l, ds, x, Q, hx => by cases hx
  | .refuse _, l, ds, x, Q, hx => by cases hx
theorem xtake_t : ∀ (ds : List Nat) {x : XH} {K : XH → Bool}, xtake ds x K = true → takeW ds (hOf x) (HP K)
  | [], x, K, hx => ⟨x, rfl, hx⟩
  | d :: ds, x, K, hx => by
    unfold xtake at hx
    obtain ⟨o, ho, hx⟩ := hg_t hx
    split at hx
    · obtain ⟨y, e, hx⟩ := hset_t hx
      refine ⟨ho, ?_⟩
      rw [e]
      exact xtake_t ds hx
    · cases hx
theorem takeW_mono : ∀ (ds : List Nat) {h : List AObj} {K K' : List AObj → Prop}, takeW ds h K → (∀ h, K h → K' h) → takeW ds h K'
  | [], h, K, K', hx, hk => hk _ hx
  | d :: ds, h, K, K', hx, hk => ⟨hx.1, takeW_mono ds hx.2 hk⟩
theorem resW_mono : ∀ (rs : List ResultVar) {r : Nat → Value} {h : List AObj} {K K' : List Value → Prop}, resW P rs r h K → (∀ vs, K vs → K' vs) → resW P rs r h K'
  | [], r, h, K, K', hx, hk => hk _ hx
  | .tmp t :: rs, r, h, K, K', hx, hk => ⟨hx.1, resW_mono rs hx.2 fun vs => hk _⟩
  | .cell a t :: rs, r, h, K, K', hx, hk => by
    unfold resW at hx ⊢
    split at hx
    · obtain ⟨v, k1, k2⟩ := pin_aLoad _ hx
      exact k2 (fun v => resW P rs r h fun vs => K' (v :: vs)) (resW_mono rs k1 fun vs => hk _)
    · exact hx.elim
theorem xres_t : ∀ (rs : List ResultVar) {r : Nat → Value} {x : XH} {K : List Value → Bool}, xres P rs r x K = true → resW P rs r (hOf x) fun vs => K vs = true
  | [], r, x, K, hx => hx
  | .tmp t :: rs, r, x, K, hx => by
    unfold xres at hx
    rw [fV_eq] at hx
    obtain ⟨a, b⟩ := and_t hx
    refine ⟨fun e => ?_, xres_t rs b⟩
    rw [e] at a
    cases a
  | .cell a t :: rs, r, x, K, hx => by
    unfold xres at hx
    unfold resW
    split at hx
    · rename_i e
      simp only [e]
      obtain ⟨v, k1, k2⟩ := pin_aLoad _ (xLoad_t hx)
      exact k2 (fun v => resW P rs r (hOf x) fun vs => K (v :: vs) = true) (xres_t rs k1)
    · cases hx
theorem xret_t {rs : List ResultVar} {K : KB} {e : Exit} {f : RG} {h : List AObj} (hq : QP (xret P rs K) e f h) : RetQ P rs n0 (KP K) e f h := by
  obtain ⟨l, ds, x, rfl, rfl, hq⟩ := hq
  have main : xtake ds x (fun h => xres P rs (gt l) h fun vs => K (pack vs) h) = true → takeW (rgOf l ds).ds (hOf x) fun h => resW P rs (rgOf l ds).r h fun vs => KP K (pack vs) h ∨ ∃ σ h' v, GC n0 σ h h' ∧ pack vs = sub σ v ∧ VOk h'.length v ∧ KP K v h' := by
    intro hq
    refine takeW_mono ds (xtake_t ds hq) fun h hk => ?_
    obtain ⟨y, rfl, hk⟩ := hk
    exact resW_mono rs (xres_t rs hk) fun vs hv => .inl ⟨y, rfl, hv⟩
  unfold xret at hq
  unfold RetQ
  split at hq
  · exact main hq
  · exact main hq
  · cases hq
theorem xputs_t : ∀ (ts : List Nat) (vs : List Value) {l : T Value} {K : T Value → Bool}, xputs l ts vs K = true → ∃ l', gt l' = putAll (gt l) ts vs ∧ K l' = true
  | [], vs, l, K, hx => by
    cases vs <;> exact ⟨l, rfl, hx⟩
  | t :: ts, [], l, K, hx => ⟨l, rfl, hx⟩
  | t :: ts, v :: vs, l, K, hx => by
    unfold xputs at hx
    obtain ⟨l1, h1, h2⟩ := tset_t _ hx
    obtain ⟨l', e1, e2⟩ := xputs_t ts vs h1
    refine ⟨l', ?_, e2⟩
    show gt l' = putAll (fun i => bif i == t then v else gt l i) ts vs
    rw [gt_set h2]
    exact e1
theorem xround_t {l n0 : Nat} {K : KB} {e : Exit} {f : RG} {h : List AObj} (hq : QP (xround l K) e f h) : roundQ l n0 (KP K) e f h := by
  obtain ⟨l', ds, x, rfl, rfl, hq⟩ := hq
  obtain ⟨o, ho, hq⟩ := hg_t hq
  unfold xroundC at hq
  split at hq
  · rename_i st pend fn r size params assign body dfr
    refine ⟨st, pend, fn, r, size, params, assign, body, dfr, ho, ?_⟩
    split at hq
    · exact .inl (hset_t hq)
    · exact .inl (hset_t hq)
    · exact .inl (hset_t hq)
    · cases hq
  · cases hq
theorem putAll_range : ∀ (args : List Value) (k : Nat) (r : Nat → Value) (t : Nat), putAll r (List.range' k args.length) args t = if k ≤ t ∧ t < k + args.length then args.getD (t - k) unk else r t
  | [], k, r, t => by
    rw [if_neg (by simp)]
    rfl
  | v :: args, k, r, t => by
    show putAll (fun i => bif i == k then v else r i) (List.range' (k + 1) args.length) args t = _
    rw [putAll_range args (k + 1)]
    simp only [List.length_cons]
    by_cases h1 : k + 1 ≤ t ∧ t < k + 1 + args.length
    · rw [if_pos h1, if_pos (by omega)]
      have : t - k = (t - (k + 1)) + 1 := by omega
      rw [this, List.getD_cons_succ]
    · rw [if_neg h1]
      by_cases e : t = k
      · subst e
        rw [if_pos (by omega)]
        simp
      · have : (t == k) = false := by simpa using e
        rw [this, if_neg (by omega)]
        rfl
theorem regT_t {r : Nat → Value} : ∀ (n : Nat) {k : T Value → Bool}, regT r n k = true → ∃ l, k l = true ∧ ∀ t, gt l t = if t < n then r t else unk
  | 0, k, hx => ⟨.nil, hx, fun t => by simp [gt, tget_nil]⟩
  | n + 1, k, hx => by
    unfold regT at hx
    obtain ⟨l, h1, h2⟩ := regT_t n hx
    rw [fV_eq] at h1
    obtain ⟨l', h3, h4⟩ := tset_t _ h1
    refine ⟨l', h3, fun t => ?_⟩
    show tget unk l' t = _
    rw [h4]
    by_cases e : t = n
    · subst e; simp
    · rw [if_neg e]
      show gt l t = _
      rw [h2]
      by_cases e2 : t < n
      · rw [if_pos e2, if_pos (by omega)]
      · rw [if_neg e2, if_neg (by omega)]
theorem Sem.less {h : List AObj} {c : Code} {f f' : RG} {Q : QT} (hr : ∀ t, f'.r t = unk ∨ f'.r t = f.r t) (hd : f'.ds = f.ds) (hs : Sem J N n0 fn c f' h Q) : Sem J N n0 fn c f h Q := by
  intro b a k cs L ρ FC w ft h1 h2 h3 h4 h5 h6 hc
  refine hs b a k cs L ρ FC w ft h1 h2 h3 ⟨fun t => ?_, h4.size, by rw [hd]; exact h4.defers, by rw [hd]; exact h4.ok⟩ h5 h6 hc
  rcases hr t with e | e
  · exact .inl e
  · rw [e]
    exact h4.regs t
theorem putAll_less : ∀ (ps : List Nat) (vs : List Value) {r r' : Nat → Value}, (∀ t, r' t = unk ∨ r' t = r t) → ∀ t, putAll r' ps vs t = unk ∨ putAll r' ps vs t = putAll r ps vs t
  | [], vs, r, r', h, t => by cases vs <;> exact h t
  | p :: ps, [], r, r', h, t => h t
  | p :: ps, v :: vs, r, r', h, t => by
    refine putAll_less ps vs (fun x => ?_) t
    by_cases e : x = p
    · have : (x == p) = true := by simpa using e
      simp [this]
    · have : (x == p) = false := by simpa using e
      simpa [this] using h x
def SemL (J : JT) (N n0 : Nat) (fn : FuncId) (c : Code) (f : RG) (h : List AObj) (Q : QT) : Prop :=
  ∀ (b : FB) (a : Act) (k : List Item) (cs : List Frame) (L : Option Code → Act → World → Foot → Prop) (ρ : Env) (FC : Frm) (w : World) (ft : Foot), b.tag = fn → b.kind ≠ .early → LeaveOk J b cs L →
    ActRel h.length ρ N f a → HRel ρ h FC w ft → n0 ≤ h.length → Cont J N n0 b k cs L ρ FC Q → J (G (b.at a (.code c :: .inLoop c :: k)) cs) w ft
theorem SemL_step {h : List AObj} (hJ : Closed P main J) {c : Code} {f : RG} {Q : QT} (hx : Sem J N n0 fn c f h (thenK (fun f h => SemL J N n0 fn c f h Q) Q)) : SemL J N n0 fn c f h Q := by
  intro b a k cs L ρ FC w ft h1 h2 h3 h4 h5 h6 hc
  refine hx b a (.inLoop c :: k) cs L ρ FC w ft h1 h2 h3 h4 h5 h6 fun e f' h' ρ' w' ft' a' q g1 g2 g3 g4 => ?_
  cases e with
  | normal =>
    refine hJ.ctrl rfl rfl (g' := G (b.at a' (.code c :: .inLoop c :: k)) cs) (fun w => by simp [G, stepG, stepG.exec, FB.at]) ?_
    exact q b a' k cs L ρ' FC w' ft' h1 h2 h3 g1 g2 g4 fun e f3 h3' ρ3 w3 ft3 a3 q r1 r2 r3 r4 => hc e f3 h3' ρ3 w3 ft3 a3 q r1 r2 (Env.upto_trans g3 r3) r4
  | exit id => exact AfterJ.push (fun _ => rfl) (by simp) (hc _ _ _ _ _ _ _ q g1 g2 g3 g4)
  | ret => exact AfterJ.push (fun _ => rfl) (by simp) (hc _ _ _ _ _ _ _ q g1 g2 g3 g4)
  | goto l => exact hc _ _ _ _ _ _ _ q g1 g2 g3 g4
  | panic l => exact hc _ _ _ _ _ _ _ q g1 g2 g3 g4
  | outgrown => exact hc _ _ _ _ _ _ _ q g1 g2 g3 g4
theorem Sem_of_SemL {h : List AObj} (hJ : Closed P main J) {c : Code} {f : RG} {Q : QT} (hx : SemL J N n0 fn c f h Q) : Sem J N n0 fn (.loop c) f h Q := by
  intro b a k cs L ρ FC w ft h1 h2 h3 h4 h5 h6 hc
  refine hJ.ctrl rfl rfl (g' := G (b.at a (.code c :: .inLoop c :: k)) cs) (fun w => by simp [G, stepG, stepG.exec, FB.at]) ?_
  exact hx b a k cs L ρ FC w ft h1 h2 h3 h4 h5 h6 hc
def XS (P : Program) (n : Nat) : Prop := ∀ (main : Bool) (J : JT), Closed P main J → CSound P J (xcall P n) ∧ ∀ N n0 fn b l ds x Q, xloop P n N fn b l ds x Q = true → SemL J N n0 fn b (rgOf l ds) (hOf x) (QP Q)
theorem x_sound (hm : P.follows .mixedOrders = true) : ∀ n : Nat, XS P n
  | 0 => fun main J hJ => ⟨fun g args x K hx => (by unfold xcall at hx; cases hx), fun N n0 fn b l ds x Q hx => (by unfold xloop at hx; cases hx)⟩
  | n + 1 => by
    intro main J hJ
    obtain ⟨hC, hL⟩ := x_sound hm n main J hJ
    have hC0 := (x_sound hm n true JF (closedF P true)).1
    have hL' : ∀ N n0 fn, LSound J N n0 fn (xloop P n N fn) := fun N n0 fn b l ds x Q hx => Sem_of_SemL hJ (hL N n0 fn b l ds x Q hx)
    refine ⟨fun g args x K hx => ?_, fun N n0 fn b l ds x Q hx => ?_⟩
    · unfold xcall at hx
      split at hx
      · rename_i fn hf
        unfold xenter at hx
        split at hx
        · rename_i c hb
          obtain ⟨a, hx⟩ := and_t hx
          obtain ⟨a1, a2⟩ := and_t a
          have a1 := ble_t a1
          obtain ⟨l, e, hx⟩ := xputs_t _ _ hx
          refine good_of_sem hJ hf hb (by simpa using a2) a1 fun ok => ?_
          have := xC_t hJ hm hC hC0 (hL' fn.ntmps (hOf x).length g) c l [] x _ hx
          have hr : rgOf l [] = ⟨regs args, []⟩ := by
            unfold rgOf regs
            congr 1
            rw [e, List.range_eq_range']
            funext t
            rw [putAll_range]
            by_cases ht : t < args.length
            · rw [if_pos (by omega)]
              simp
            · rw [if_neg (by omega), List.getD_eq_getElem?_getD, List.getElem?_eq_none (by omega)]
              rfl
          rw [hr] at this
          exact this.mono fun e f h q => xret_t q
        · cases hx
      · obtain ⟨a, hx⟩ := and_t hx
        obtain ⟨o, ho, hx⟩ := hg_t hx
        unfold xinto at hx
        split at hx
        · rename_i pend fn r size params assign body dfr
          obtain ⟨a1, hx⟩ := and_t hx
          obtain ⟨a1, a2⟩ := and_t a1
          obtain ⟨l0, hx, e0⟩ := regT_t _ hx
          obtain ⟨l', e1, hx⟩ := xputs_t params.toList args hx
          have a1 : params.size = args.length := by simpa using a1
          have hyid : g = yid P (g - P.funcs.size) := (Nat.add_sub_cancel' (ble_t a)).symm
          rw [hyid]
          refine good_round hJ ho a1 (fun t ht => blt_t (List.all_eq_true.1 a2 t ht)) fun ok => ?_
          refine Sem.less (f' := rgOf l' []) (fun t => ?_) rfl ((xC_t hJ hm hC hC0 (hL' size (hOf x).length (fn + 1000000)) assign l' [] x _ hx).mono fun e f h1 q => ?_)
          · show gt l' t = unk ∨ gt l' t = putAll r params.toList args t
            rw [e1]
            refine putAll_less _ _ (fun x => ?_) t
            rw [e0]
            split
            · exact .inr rfl
            · exact .inl rfl
          · obtain ⟨l2, ds2, x2, rfl, rfl, hq⟩ := q
            simp only at hq
            split at hq
            · obtain ⟨o2, ho2, hq⟩ := hg_t hq
              split at hq
              · rename_i pend' fn' r' size' params' assign' body' dfr'
                obtain ⟨y, ey, hq⟩ := hset_t hq
                refine ⟨rfl, pend', fn', r', size', params', assign', body', dfr', ho2, ?_⟩
                rw [ey]
                exact (xC_t hJ hm hC hC0 (hL' size (hOf x).length (fn + 1000000)) body l2 [] y _ hq).mono fun e f h2 q => xround_t q
              · cases hq
            · cases hq
        · cases hx
    · unfold xloop at hx
      refine SemL_step hJ ((xC_t hJ hm hC hC0 (hL' N n0 fn) b l ds x _ hx).mono fun e f h q => ?_)
      obtain ⟨l', ds', x', rfl, rfl, hq⟩ := q
      cases e with
      | normal => exact hL N n0 fn b l' ds' x' Q hq
      | _ => exact ⟨l', ds', x', rfl, rfl, hq⟩
end
section
variable {P : Program} {main : Bool} {J : JT} {g : FuncId} {args : List Value} {h : List AObj} {K K' : Value → List AObj → Prop}
theorem good_frame (hg : Good P J g args [] K) (hlt : g < P.funcs.size) (ha : ∀ v ∈ args, VOk 0 v) (hk : ∀ v h', K v h' → VOk 0 v ∧ K' v h) : Good P J g args h K' := by
  obtain ⟨ho, hg⟩ := hg
  have hcall : callable P g = true := by
    rcases ho with ⟨_, e⟩ | ⟨e, _⟩
    · exact e
    · exact absurd hlt (Nat.not_lt.2 e)
  refine ⟨.inl ⟨hlt, hcall⟩, fun ρ FC w ft cs c cargs fr H hargs hl hent hc => ?_⟩
  have hfr : fr = Frame.enter P g ⟨cargs⟩ .normal := by
    rcases hent with ⟨_, e⟩ | ⟨e, _⟩
    · exact e
    · exact absurd hlt (Nat.not_lt.2 e)
  have ob : ∃ ob : Nat → Option Obj, (∀ b, ft.rd b → ob b = w.heap[b]?) ∧ (∀ b, ¬ ft.rd b → ob b = none) := by
    classical
    exact ⟨fun b => if ft.rd b then w.heap[b]? else none, fun b hb => if_pos hb, fun b hb => if_neg hb⟩
  obtain ⟨ob, ob1, ob2⟩ := ob
  have H0 : HRel ρ [] ⟨ob, ft.wr⟩ w ft := by
    refine ⟨fun b o hb => by simp at hb, fun b b' o o' hb => by simp at hb, fun b o hb => by simp at hb, fun b o hb => by simp at hb, H.lt, H.sub, fun b o hb => ?_, fun b hb => hb⟩
    by_cases hr : ft.rd b
    · refine ⟨?_, hr, fun a oa ha => by simp at ha⟩
      rw [← ob1 b hr]
      exact hb
    · have : ob b = some o := hb
      rw [ob2 b hr] at this
      cases this
  refine hg ρ ⟨ob, ft.wr⟩ w ft cs c cargs fr H0 (fun i => ?_) hl (.inl ⟨hlt, hfr⟩) fun v h' ρ' w' ft' cv hK H' hu hl' hv => ?_
  · rcases hargs i with e | ⟨_, e⟩
    · exact .inl e
    · by_cases hi : i < args.length
      · have : args.getD i unk ∈ args := by
          rw [List.getD_eq_getElem?_getD, List.getElem?_eq_getElem hi]
          exact List.getElem_mem hi
        exact .inr ⟨ha _ this, e⟩
      · left
        rw [List.getD_eq_getElem?_getD, List.getElem?_eq_none (by omega)]
        rfl
  · obtain ⟨hv0, hK'⟩ := hk v h' hK
    have kp : ∀ b, ft.rd b → w'.heap[b]? = w.heap[b]? ∧ ft'.rd b := by
      intro b hb
      have hlt' := H.lt b hb
      have : (⟨ob, ft.wr⟩ : Frm).ob b = some w.heap[b] := by
        show ob b = _
        rw [ob1 b hb, Array.getElem?_eq_getElem hlt']
      obtain ⟨a1, a2, _⟩ := H'.kept b _ this
      exact ⟨by rw [a1, Array.getElem?_eq_getElem hlt'], a2⟩
    refine hc v h ρ w' ft' cv hK' ⟨fun b o hb => ?_, H.inj, fun b o hb hl => (kp _ (H.rd b o hb hl)).2, fun b o hb hw => H'.keptW _ (H.wr b o hb hw), H'.lt, H'.sub, fun b o hb => ?_, fun b hb => H'.keptW _ (H.keptW b hb)⟩ (Env.upto_refl _ _) (Nat.le_refl _) ?_
    · cases hlv : o.live with
      | false => cases o <;> first | trivial | cases hlv
      | true =>
        rw [(kp _ (H.rd b o hb hlv)).1]
        exact H.obj b o hb
    · obtain ⟨a1, a2, a3⟩ := H.kept b o hb
      exact ⟨by rw [(kp b a2).1]; exact a1, (kp b a2).2, a3⟩
    · rcases hv with e | ⟨_, e⟩
      · exact .inl e
      · exact .inr ⟨VOk.mono (Nat.zero_le _) v hv0, by rw [e, ren0 v hv0, ren0 v hv0]⟩
end
section
variable {P : Program} {J : JT} {g : FuncId} {args : List Value} {h h0 : List AObj} {K K' : Value → List AObj → Prop} {σ : Nat → Nat}
structure Lies (σ : Nat → Nat) (h0 h : List AObj) : Prop where
  cell : ∀ (i : Nat) (o : AObj), h0[i]? = some o → ∃ c wr, o = .cells c false 0 ∧ LOk h0.length c ∧ h[σ i]? = some (.cells (c.map (sub σ)) wr 0)
  inj : ∀ i j, i < h0.length → j < h0.length → σ i = σ j → i = j
theorem good_in (hg : Good P J g args h0 K) (hlt : g < P.funcs.size) (L : Lies σ h0 h) (ha : ∀ v ∈ args, VOk h0.length v)
    (hk : ∀ v h', K v h' → (VOk 0 v ∧ K' v h) ∨ ∃ k c sz v1, h'[k]? = some (.cells c true sz) ∧ LOk 0 c ∧ v = sub (fun _ => k) v1 ∧ v ≠ unk ∧ VOk (h.length + 1) (sub (fun _ => h.length) v1) ∧ K' (sub (fun _ => h.length) v1) (h ++ [.cells c true sz])) :
    Good P J g (args.map (sub σ)) h K' := by
  obtain ⟨ho, hg⟩ := hg
  have hcall : callable P g = true := by
    rcases ho with ⟨_, e⟩ | ⟨e, _⟩
    · exact e
    · exact absurd hlt (Nat.not_lt.2 e)
  refine ⟨.inl ⟨hlt, hcall⟩, fun ρ FC w ft cs c cargs fr H hargs hl hent hc => ?_⟩
  have hfr : fr = Frame.enter P g ⟨cargs⟩ .normal := by
    rcases hent with ⟨_, e⟩ | ⟨e, _⟩
    · exact e
    · exact absurd hlt (Nat.not_lt.2 e)
  have ob : ∃ ob : Nat → Option Obj, (∀ b, ft.rd b → ob b = w.heap[b]?) ∧ (∀ b, ¬ ft.rd b → ob b = none) := by
    classical
    exact ⟨fun b => if ft.rd b then w.heap[b]? else none, fun b hb => if_pos hb, fun b hb => if_neg hb⟩
  obtain ⟨ob, ob1, ob2⟩ := ob
  have lt0 : ∀ {b : Nat} {o : AObj}, h0[b]? = some o → b < h0.length := fun hb => (List.getElem?_eq_some_iff.1 hb).1
  have H0 : HRel (ρ.comp σ) h0 ⟨ob, ft.wr⟩ w ft := by
    refine ⟨fun b o hb => ?_, fun b b' o o' hb hb' _ _ e => ?_, fun b o hb _ => ?_, fun b o hb hw => ?_, H.lt, H.sub, fun b o hb => ?_, fun b hb => hb⟩
    · obtain ⟨c, wr, rfl, ok, hs⟩ := L.cell b o hb
      have hr := H.obj _ _ hs
      have h2 : ORel h0.length (ρ.comp σ) b (.cells c wr 0) w.heap[ρ.blk (σ b)]? := ORel.sub (o := .cells c wr 0) hr ok
      show ORel h0.length (ρ.comp σ) b (.cells c false 0) w.heap[ρ.blk (σ b)]?
      match w.heap[ρ.blk (σ b)]?, h2 with
      | some (.cells c' ty fr), ⟨h1, h2, h3, h4⟩ => exact ⟨fun i v hv => (h1 i v hv).imp (fun u => ⟨u.1, rfl⟩) id, h2, h3, fun x => by cases x⟩
    · obtain ⟨c, wr, rfl, ok, hs⟩ := L.cell b o hb
      obtain ⟨c2, wr2, rfl, ok2, hs2⟩ := L.cell b' o' hb'
      exact L.inj b b' (lt0 hb) (lt0 hb') (H.inj _ _ _ _ hs hs2 rfl rfl e)
    · obtain ⟨c, wr, rfl, ok, hs⟩ := L.cell b o hb
      exact H.rd _ _ hs rfl
    · obtain ⟨c, wr, rfl, ok, hs⟩ := L.cell b o hb
      cases hw
    · by_cases hr : ft.rd b
      · refine ⟨?_, hr, fun a oa ha hw => ?_⟩
        · rw [← ob1 b hr]
          exact hb
        · obtain ⟨c, wr, rfl, ok, hs⟩ := L.cell a oa ha
          cases hw
      · have : ob b = some o := hb
        rw [ob2 b hr] at this
        cases this
  refine hg (ρ.comp σ) ⟨ob, ft.wr⟩ w ft cs c cargs fr H0 (fun i => ?_) (by rw [hl, List.length_map]) (.inl ⟨hlt, hfr⟩) fun v h' ρ' w' ft' cv hK H' hu hl' hv => ?_
  · have hi' := hargs i
    by_cases hi : i < args.length
    · have e1 : args.getD i unk = args[i] := by rw [List.getD_eq_getElem?_getD, List.getElem?_eq_getElem hi]; rfl
      have e2 : (args.map (sub σ)).getD i unk = sub σ args[i] := by rw [List.getD_eq_getElem?_getD, List.getElem?_map, List.getElem?_eq_getElem hi]; rfl
      rw [e1]
      rw [e2] at hi'
      rcases hi' with e | ⟨_, e⟩
      · exact .inl (sub_inv e)
      · exact .inr ⟨ha _ (List.getElem_mem hi), by rw [e, ren_sub]⟩
    · left
      rw [List.getD_eq_getElem?_getD, List.getElem?_eq_none (by omega)]
      rfl
  · have kp : ∀ b, ft.rd b → w'.heap[b]? = w.heap[b]? ∧ ft'.rd b := by
      intro b hb
      have hlt' := H.lt b hb
      have : (⟨ob, ft.wr⟩ : Frm).ob b = some w.heap[b] := by
        show ob b = _
        rw [ob1 b hb, Array.getElem?_eq_getElem hlt']
      obtain ⟨a1, a2, _⟩ := H'.kept b _ this
      exact ⟨by rw [a1, Array.getElem?_eq_getElem hlt'], a2⟩
    rcases hk v h' hK with ⟨hv0, hK'⟩ | ⟨k, c2, sz, v1, hk1, hk2, rfl, hk3, hk4, hK'⟩
    · refine hc v h ρ w' ft' cv hK' ⟨fun b o hb => ?_, H.inj, fun b o hb hl => (kp _ (H.rd b o hb hl)).2, fun b o hb hw => H'.keptW _ (H.wr b o hb hw), H'.lt, H'.sub, fun b o hb => ?_, fun b hb => H'.keptW _ (H.keptW b hb)⟩ (Env.upto_refl _ _) (Nat.le_refl _) ?_
      · cases hlv : o.live with
        | false => cases o <;> first | trivial | cases hlv
        | true =>
          rw [(kp _ (H.rd b o hb hlv)).1]
          exact H.obj b o hb
      · obtain ⟨a1, a2, a3⟩ := H.kept b o hb
        exact ⟨by rw [(kp b a2).1]; exact a1, (kp b a2).2, a3⟩
      · rcases hv with e | ⟨_, e⟩
        · exact .inl e
        · exact .inr ⟨VOk.mono (Nat.zero_le _) v hv0, by rw [e, ren0 v hv0, ren0 v hv0]⟩
    · obtain ⟨ρ2, hρ2⟩ : ∃ ρ2 : Env, ρ2 = ⟨fun b => if b = h.length then ρ'.blk k else ρ.blk b, fun b => if b = h.length then ρ'.cap k else ρ.cap b⟩ := ⟨_, rfl⟩
      have rn : ρ2.blk h.length = ρ'.blk k ∧ ρ2.cap h.length = ρ'.cap k := by subst hρ2; simp
      have ro : ∀ b, b < h.length → ρ2.blk b = ρ.blk b ∧ ρ2.cap b = ρ.cap b := fun b hb => by subst hρ2; simp [Nat.ne_of_lt hb]
      have hup : Env.upto h.length ρ ρ2 := ro
      have split : ∀ {b : Nat} {o : AObj}, (h ++ [AObj.cells c2 true sz])[b]? = some o → (b < h.length ∧ h[b]? = some o) ∨ (b = h.length ∧ o = .cells c2 true sz) := fun {b o} hb => by
        rcases Nat.lt_or_ge b h.length with x | x
        · rw [List.getElem?_append_left x] at hb
          exact .inl ⟨x, hb⟩
        · have hlt2 := (List.getElem?_eq_some_iff.1 hb).1
          simp at hlt2
          have : b = h.length := by omega
          subst this
          exact .inr ⟨rfl, by simpa using hb.symm⟩
      have nw : ∀ b, ft.rd b → ρ'.blk k ≠ b := fun b hb => by
        have hlt' := H.lt b hb
        have : (⟨ob, ft.wr⟩ : Frm).ob b = some w.heap[b] := by
          show ob b = _
          rw [ob1 b hb, Array.getElem?_eq_getElem hlt']
        exact (H'.kept b _ this).2.2 k _ hk1 rfl
      refine hc _ _ ρ2 w' ft' cv hK' ⟨fun b o hb => ?_, fun b b' o o' hb hb' l l' e => ?_, fun b o hb hl => ?_, fun b o hb hw => ?_, H'.lt, H'.sub, fun b o hb => ?_, fun b hb => H'.keptW _ (H.keptW b hb)⟩ hup (by simp) ?_
      · rcases split hb with ⟨x, hb⟩ | ⟨rfl, rfl⟩
        · cases hlv : o.live with
          | false => cases o <;> first | trivial | cases hlv
          | true =>
            have := (H.obj b o hb).congr hup (Nat.le_of_lt (by simp : h.length < (h ++ [AObj.cells c2 true sz]).length)) x
            rw [(ro b x).1, (kp _ (H.rd b o hb hlv)).1]
            exact this
        · have hr := H'.obj k _ hk1
          rw [rn.1]
          match w'.heap[ρ'.blk k]?, hr with
          | some (.cells c' ty fr), ⟨h1, h2, h3, h4⟩ =>
            refine ⟨fun i v hv => ?_, h2, fun hz => by rw [rn.2]; exact h3 hz, h4⟩
            have v0 : VOk 0 v := (LOk_iff _).1 hk2 v (List.mem_of_getElem? hv)
            rcases h1 i v hv with u | ⟨_, a2, a3⟩
            · exact .inl u
            · exact .inr ⟨VOk.mono (Nat.zero_le _) v v0, a2, by rw [a3, ren0 v v0, ren0 v v0]⟩
      · rcases split hb with ⟨x, hb⟩ | ⟨rfl, rfl⟩
        · rcases split hb' with ⟨x', hb'⟩ | ⟨rfl, rfl⟩
          · rw [(ro b x).1, (ro b' x').1] at e
            exact H.inj _ _ _ _ hb hb' l l' e
          · rw [(ro b x).1, rn.1] at e
            exact absurd e.symm (nw _ (H.rd b o hb l))
        · rcases split hb' with ⟨x', hb'⟩ | ⟨rfl, rfl⟩
          · rw [(ro b' x').1, rn.1] at e
            exact absurd e (nw _ (H.rd b' o' hb' l'))
          · rfl
      · rcases split hb with ⟨x, hb⟩ | ⟨rfl, rfl⟩
        · rw [(ro b x).1]
          exact (kp _ (H.rd b o hb hl)).2
        · rw [rn.1]
          exact H'.rd k _ hk1 rfl
      · rcases split hb with ⟨x, hb⟩ | ⟨rfl, rfl⟩
        · rw [(ro b x).1]
          exact H'.keptW _ (H.wr b o hb hw)
        · rw [rn.1]
          exact H'.wr k _ hk1 rfl
      · obtain ⟨a1, a2, a3⟩ := H.kept b o hb
        refine ⟨by rw [(kp b a2).1]; exact a1, (kp b a2).2, fun a oa ha hw => ?_⟩
        rcases split ha with ⟨x, ha⟩ | ⟨rfl, rfl⟩
        · rw [(ro a x).1]
          exact a3 a oa ha hw
        · rw [rn.1]
          exact nw b a2
      · rcases hv with e | ⟨_, e⟩
        · exact absurd e hk3
        · refine .inr ⟨by simpa using hk4, ?_⟩
          rw [e, ren_sub, ren_sub]
          congr 1
          show Env.mk (fun _ => ρ'.blk k) (fun _ => ρ'.cap k) = Env.mk (fun _ => ρ2.blk h.length) (fun _ => ρ2.cap h.length)
          rw [rn.1, rn.2]
noncomputable def isInts (l : List Int) (e : Int) : KB := fun v x =>
  match v with
  | .tuple ⟨[.slice (some ⟨k, 0, none⟩) n _, .int .i64 e']⟩ => (Nat.beq n l.length && decide (e' = e)) && hg x k fun o =>
    match o with
    | .cells c true _ => simL eqP c (l.map vint)
    | _ => false
  | _ => false
def isTwo (a b : Int) : KB := fun v _ =>
  match v with
  | .tuple ⟨[.int .i64 a', .int .i64 b']⟩ => decide (a' = a) && decide (b' = b)
  | _ => false
theorem isInts_t {l : List Int} {e : Int} {v : Value} {h' : List AObj} (hx : KP (isInts l e) v h') : ∃ k c sz, h'[k]? = some (.cells (l.map vint) true sz) ∧ v = .tuple ⟨[.slice (some ⟨k, 0, none⟩) l.length c, vint e]⟩ := by
  obtain ⟨x, rfl, hx⟩ := hx
  unfold isInts at hx
  split at hx
  · rename_i k n c e'
    obtain ⟨a, hy⟩ := and_t hx
    clear hx
    obtain ⟨a1, a2⟩ := and_t a
    have a1 := Nat.eq_of_beq_eq_true a1
    have a2 : e' = e := of_decide_eq_true a2
    subst a1 a2
    obtain ⟨o, ho, hz⟩ := hg_t hy
    clear hy
    split at hz
    · rename_i cs sz
      have := simL_t (g := id) (fun a b h => eqP_t h) hz
      rw [List.map_id] at this
      exact ⟨k, c, sz, by rw [this]; exact ho, rfl⟩
    · cases hz
  · cases hx
theorem isTwo_t {a b : Int} {v : Value} {h' : List AObj} (hx : KP (isTwo a b) v h') : v = .tuple ⟨[vint a, vint b]⟩ := by
  obtain ⟨x, rfl, hx⟩ := hx
  unfold isTwo at hx
  split at hx
  · obtain ⟨a1, a2⟩ := and_t hx
    have a1 := of_decide_eq_true a1
    have a2 := of_decide_eq_true a2
    subst a1 a2
    rfl
  · cases hx
theorem run_ints {l : List Int} {e : Int} (hg : Good P J g args h0 (KP (isInts l e))) (hlt : g < P.funcs.size) (L : Lies σ h0 h) (ha : ∀ v ∈ args, VOk h0.length v)
    (hk : ∀ c sz, K' (.tuple ⟨[.slice (some ⟨h.length, 0, none⟩) l.length c, vint e]⟩) (h ++ [.cells (l.map vint) true sz])) : Good P J g (args.map (sub σ)) h K' :=
  good_in hg hlt L ha fun v h' hx => by
    obtain ⟨k, c, sz, hk1, rfl⟩ := isInts_t hx
    refine .inr ⟨k, _, sz, .tuple ⟨[.slice (some ⟨0, 0, none⟩) l.length c, vint e]⟩, hk1, ?_, by simp [sub, subA, subL], by simp [unk], ?_, ?_⟩
    · rw [LOk_iff]
      intro v hv
      obtain ⟨x, _, rfl⟩ := List.mem_map.1 hv
      simp [VOk]
    · simp [sub, subA, subL, VOk, AOk, LOk, AddrOk]
    · simpa [sub, subA, subL] using hk c sz
theorem run_two {a b : Int} (hg : Good P J g args h0 (KP (isTwo a b))) (hlt : g < P.funcs.size) (L : Lies σ h0 h) (ha : ∀ v ∈ args, VOk h0.length v)
    (hk : K' (.tuple ⟨[vint a, vint b]⟩) h) : Good P J g (args.map (sub σ)) h K' :=
  good_in hg hlt L ha fun v h' hx => by
    cases isTwo_t hx
    exact .inl ⟨by simp [VOk, AOk, LOk], hk⟩
end
end Go.Proofs.Ytindillghipjjaa
namespace Go.Proofs.Ytindillghipjjaa
open Go.Conc Go.Proofs.Try
set_option maxRecDepth 100000
def exV (p : Nat) : Value := .agg ⟨troCells exTro (.slice (some ⟨p, 0, none⟩) 2 2)⟩
def exF : AObj := .cells [vint 4, vint 3, vint 5, vint 4] false 0
def exH1 : XH := ⟨1, .node exF .nil .nil⟩
def exH (l : List Int) : XH := ⟨2, .node exF (.node (.cells (l.map vint) false 0) .nil .nil) .nil⟩
theorem run37 : xcall prog 200 37 [exV 0, .slice (some ⟨1, 0, none⟩) 3 3, vint 4] (exH [0, 1, -1]) (isInts [5, 3, 6, 5] 0) = true := by kernel_rfl
theorem run38 : xcall prog 200 38 [exV 0, .slice (some ⟨1, 0, none⟩) 2 2] (exH [0, 1]) (isTwo 2 0) = true := by kernel_rfl
theorem run39 : xcall prog 200 39 [exV 0] exH1 (isInts [-1, 0, 1] 0) = true := by kernel_rfl
theorem run34 : xcall prog 200 34 [exTro.well.val, .agg ⟨[vint 12, vint 20, vint 1, vint 4, vint 3, vint 2]⟩, .agg ⟨[vint 3, vint 2, vint 2]⟩, vint 0, vint 3] ⟨0, .nil⟩ (isTwo 4 0) = true := by kernel_rfl
section
variable {main : Bool} {J : JT} {h : List AObj} {K : Value → List AObj → Prop} {p q : Nat}
theorem lies1 {wr : Bool} (hp : h[p]? = some (.cells (exTro.flocks.flatMap Dro.cells) wr 0)) : Lies (fun _ => p) (hOf exH1) h := by
  have e : hOf exH1 = [exF] := rfl
  rw [e]
  refine ⟨fun i o hi => ?_, fun i j hi hj _ => by simp at hi hj; omega⟩
  match i, hi with
  | 0, hi =>
    cases hi
    exact ⟨_, wr, rfl, by simp [LOk, VOk], hp⟩
theorem lies2 {l : List Int} {wr wr2 : Bool} (hp : h[p]? = some (.cells (exTro.flocks.flatMap Dro.cells) wr 0)) (hq : h[q]? = some (.cells (l.map vint) wr2 0)) (hne : p ≠ q) : Lies (fun i => if i = 0 then p else q) (hOf (exH l)) h := by
  have e : hOf (exH l) = [exF, .cells (l.map vint) false 0] := rfl
  have hs : ∀ v ∈ l.map vint, sub (fun i => if i = 0 then p else q) v = v := fun v hv => by
    obtain ⟨x, _, rfl⟩ := List.mem_map.1 hv
    simp [sub]
  rw [e]
  refine ⟨fun i o hi => ?_, fun i j hi hj he => ?_⟩
  · match i, hi with
    | 0, hi =>
      cases hi
      exact ⟨_, wr, rfl, by simp [LOk, VOk], hp⟩
    | 1, hi =>
      cases hi
      refine ⟨_, wr2, rfl, ints_ok _ _, ?_⟩
      rw [List.map_congr_left hs, List.map_id']
      exact hq
  · simp at hi hj
    have hi2 : i = 0 ∨ i = 1 := by omega
    have hj2 : j = 0 ∨ j = 1 := by omega
    rcases hi2 with rfl | rfl <;> rcases hj2 with rfl | rfl <;> simp at he ⊢ <;> omega
theorem ex37 (hJ : Closed prog main J) {wr wr2 : Bool} (hp : h[p]? = some (.cells (exTro.flocks.flatMap Dro.cells) wr 0)) (hq : h[q]? = some (.cells ([0, 1, -1].map vint) wr2 0)) (hne : p ≠ q)
    (hK : ∀ H lv, SameX [] h H → Sli H lv 1 4 [vint 5, vint 3, vint 6, vint 5] → K (.tuple ⟨[lv, vint 0]⟩) H) : Good prog J 37 [exV p, .slice (some ⟨q, 0, none⟩) 3 3, vint 4] h K := by
  have hg := (x_sound mixed 200 main J hJ).1 37 _ _ _ run37
  have := run_ints (K' := K) hg (blt_t (by kernel_rfl : Nat.blt 37 prog.funcs.size = true)) (lies2 hp hq hne) (by simp [exV, troCells, VOk, AOk, LOk, AddrOk, exH, hOf]) fun c sz => hK _ _ SameX.refl.app (sli_new (wr := true) (sz := sz) (by simp) rfl rfl)
  simpa [sub, subA, subL, exV, troCells] using this
theorem ex38 (hJ : Closed prog main J) {wr wr2 : Bool} (hp : h[p]? = some (.cells (exTro.flocks.flatMap Dro.cells) wr 0)) (hq : h[q]? = some (.cells ([0, 1].map vint) wr2 0)) (hne : p ≠ q)
    (hK : K (.tuple ⟨[vint 2, vint 0]⟩) h) : Good prog J 38 [exV p, .slice (some ⟨q, 0, none⟩) 2 2] h K := by
  have hg := (x_sound mixed 200 main J hJ).1 38 _ _ _ run38
  have := run_two (K' := K) hg (blt_t (by kernel_rfl : Nat.blt 38 prog.funcs.size = true)) (lies2 hp hq hne) (by simp [exV, troCells, VOk, AOk, LOk, AddrOk, exH, hOf]) hK
  simpa [sub, subA, subL, exV, troCells] using this
theorem ex39 (hJ : Closed prog main J) {wr : Bool} (hp : h[p]? = some (.cells (exTro.flocks.flatMap Dro.cells) wr 0))
    (hK : ∀ H lv, SameX [] h H → Sli H lv 1 3 [vint (-1), vint 0, vint 1] → K (.tuple ⟨[lv, vint 0]⟩) H) : Good prog J 39 [exV p] h K := by
  have hg := (x_sound mixed 200 main J hJ).1 39 _ _ _ run39
  have := run_ints (K' := K) hg (blt_t (by kernel_rfl : Nat.blt 39 prog.funcs.size = true)) (lies1 hp) (by simp [exV, troCells, VOk, AOk, LOk, AddrOk, exH1, hOf]) fun c sz => hK _ _ SameX.refl.app (sli_new (wr := true) (sz := sz) (by simp) rfl rfl)
  simpa [sub, subA, subL, exV, troCells] using this
theorem ex34 (hJ : Closed prog main J) (hK : K (.tuple ⟨[vint 4, vint 0]⟩) h) : Good prog J 34 [exTro.well.val, .agg ⟨[vint 12, vint 20, vint 1, vint 4, vint 3, vint 2]⟩, .agg ⟨[vint 3, vint 2, vint 2]⟩, vint 0, vint 3] h K := by
  have hg := (x_sound mixed 200 main J hJ).1 34 _ _ _ run34
  refine good_frame hg (blt_t (by kernel_rfl : Nat.blt 34 prog.funcs.size = true)) (by simp [exTro, Wel.val, Wel.cells, VOk, AOk, LOk]) fun v h' hx => ?_
  cases isTwo_t hx
  exact ⟨by simp [VOk, AOk, LOk], hK⟩
end
section
variable {W0 : World} {Post : Value → World → Prop} {h : List AObj} {K : Value → List AObj → Prop}
theorem fld_wel {fv : Value} {KV : Value → Prop} (hk : KV exTro.well.val) : aField true 3 0 (.agg ⟨troCells exTro fv⟩) KV :=
  ⟨(Nat.le_of_ble_eq_true rfl : 0 + 3 ≤ 4), hk⟩
theorem good19f (hK : ∀ H, SameX [] (unch h) H → K (.bool true) H) : Good prog (J1 prog W0 Post) 19 [] h K := by
  have hJ := J1.closed prog W0 Post
  refine g19 hJ fun ok => ?_
  rw [e19]
  refine good66 hJ fun H1 f1 S1 q1 T1 => ?_
  refine ⟨by decide, fill_one rfl rfl rfl (by decide) (fill_one rfl rfl rfl (by decide) (fill_one rfl rfl rfl (by decide) (fillI (qNew fun H2 p2 e2 S2 c2 l2 => ?_))))⟩
  have := lt_of_get q1
  refine ex37 hJ (S2.get q1 (by simp)) c2 (by omega) fun H3 lv S3 L3 => ?_
  refine vext0 (vext1 ?_)
  refine good66 hJ fun H4 f4 S4 q4 T4 => ?_
  refine ⟨by decide, fill_one rfl rfl rfl (by decide) (fill_one rfl rfl rfl (by decide) (fillI (qNew fun H5 p5 e5 S5 c5 l5 => ?_)))⟩
  have := lt_of_get q4
  refine ex38 hJ (S5.get q4 (by simp)) c5 (by omega) ?_
  refine vext0 (vext1 ?_)
  refine good66 hJ fun H7 f7 S7 q7 T7 => ?_
  refine ex39 hJ q7 fun H8 rv S8 R8 => ?_
  refine vext0 (vext1 ?_)
  refine good66 hJ fun H9 f9 S9 q9 T9 => ?_
  refine ⟨by decide, fill_one rfl rfl rfl (by decide) (fill_one rfl rfl rfl (by decide) (fillI (qNew fun H10 p10 e10 S10 c10 l10 => ?_)))⟩
  have s10 := ownX_sli (ownX_new (s := 1) (n := 2) (l := [vint 2, vint 0]) c10 rfl rfl)
  refine good26 (t := exTro) (cs := [2, 0]) ⟨T9.val, S10.sli T9.fl (by simp)⟩ s10 (by decide) (fun he => absurd ex_servE he) (fun _ hp => absurd hp (by rw [ex_pick]; decide)) fun _ i c os H hp hos S O => ?_
  have hi : i = 1 := by
    rw [ex_pick] at hp
    omega
  subst hi
  have ho : os = [1, 0] := by
    rw [ex_all] at hos
    exact (Option.some.inj hos).symm
  subst ho
  rw [ex_wait]
  -- what is kept till the end
  have A10 : SameX [] H3 H10 := (((S4.trans S5).trans S7).trans S8).trans (S9.trans S10)
  have B10 : SameX [] H8 H10 := S9.trans S10
  have L : Sli H lv 1 4 [vint 5, vint 3, vint 6, vint 5] := S.sli (unch_sli (A10.sli L3 (by simp))) (by simp)
  have R : Sli H rv 1 3 [vint (-1), vint 0, vint 1] := S.sli (unch_sli (B10.sli R8 (by simp))) (by simp)
  show aExt _ 0 _
  refine good66 hJ fun H11 f11 S11 q11 T11 => ?_
  rw [T11.val]
  refine fld_wel ?_
  refine good67 hJ (good68 hJ (ex34 hJ (vext0 (vext1 ?_))))
  have S11' : SameX [] H H11 := S11
  have ct : ∀ {a b : Int} {A B : Prop}, a = b → A → cnd (.bool (decide (a = b))) A B := fun e hA => by rw [decide_eq_true e]; exact cnd_true.2 hA
  refine eqlI (ct rfl (eqlI (ct rfl (eqlI (ct rfl (eqlI (ct rfl (eqlI (ct rfl (eqlI (ct rfl (eqlI (ct rfl (eqlI (ct rfl ?_)))))))))))))))
  refine ⟨by decide, fill_one rfl rfl rfl (by decide) (fill_one rfl rfl rfl (by decide) (fill_one rfl rfl rfl (by decide) (fill_one rfl rfl rfl (by decide) (fillI (qNew fun H13 p13 e13 S13 c13 l13 => ?_)))))⟩
  have s13 := ownX_sli (ownX_new (s := 1) (n := 4) (l := [vint 5, vint 3, vint 6, vint 5]) c13 rfl rfl)
  have S1113 : SameX [] H H13 := S11'.trans S13
  refine good28 (xs := [5, 3, 6, 5]) (ys := [5, 3, 6, 5]) hJ (S1113.sli L (by simp)) s13 (by decide) (cnd_true.2 ?_)
  refine ⟨by decide, fill_one rfl rfl rfl (by decide) (fill_one rfl rfl rfl (by decide) (fill_one rfl rfl rfl (by decide) (fillI (qNew fun H14 p14 e14 S14 c14 l14 => ?_))))⟩
  have s14 := ownX_sli (ownX_new (s := 1) (n := 3) (l := [vint (-1), vint 0, vint 1]) c14 rfl rfl)
  refine good28 (xs := [-1, 0, 1]) (ys := [-1, 0, 1]) hJ ((S1113.trans S14).sli R (by simp)) s14 (by decide) (cnd_true.2 ?_)
  refine ⟨by decide, fill_one rfl rfl rfl (by decide) (fill_one rfl rfl rfl (by decide) (fillI (qNew fun H15 p15 e15 S15 c15 l15 => ?_)))⟩
  have s15 := ownX_sli (ownX_new (s := 1) (n := 2) (l := [vint 1, vint 0]) c15 rfl rfl)
  refine good28 (xs := [1, 0]) (ys := [1, 0]) hJ (((S1113.trans S14).trans S15).sli O (by simp)) s15 (by decide) ?_
  have A0 : SameX [] h H10 := ((S1.trans S2).trans S3).trans A10
  have U : SameX [] (unch h) (unch H10) := by
    have := same_unch (g := []) A0
    rwa [List.append_nil] at this
  exact retL_same (by simp [unk]) (hK _ (((U.trans S).trans (S1113.trans S14)).trans S15))
theorem good19 (hK : ∀ H, K (.bool true) H) : Good prog (J1 prog W0 Post) 19 [] h K := good19f fun H _ => hK H
end
end Go.Proofs.Ytindillghipjjaa
namespace Go.Proofs.Ytindillghipjjaa
open Go.Conc Go.Proofs.Try
set_option maxRecDepth 100000
set_option maxHeartbeats 4000000
set_option linter.unusedVariables false
section
variable {main : Bool} {J : JT} {n0 : Nat} {h : List AObj} {K : Value → List AObj → Prop}
theorem at30 : prog.funcs[30]? = some f30 := by kernel_rfl
theorem body30 : f30.body = some (codeOf f30) := by kernel_rfl
def pl30 : Plans := [(2, false, .take 0 (.take 1 (.take 2 (.take 3 (.take 4 (.take 5 (.take 9 (.take 10 (.last 6 true (.last 7 true (.last 8 true (.take 14 (.last 11 true (.last 12 true (.last 13 true (.last 15 false (.take 16 (.last 17 false (.fin)))))))))))))))))))]
def ct30 : Cuts := .go
theorem pok30 : plansOk prog pl30 (codeOf f30) = true := by kernel_rfl
theorem e30 {a0 a1 : Value} : W prog J 29 h.length 30 (codeOf f30) (RG.mk (regs [a0, a1]) []) h (RetQ prog [.cell 4 23] h.length K) =
(aAlloc [(vint 0), (vint 0), (vint 0)] h fun v1 h2 =>
aMin a1 [(vint 40)] fun v3 =>
aMax (vint 2) [v3] fun v4 =>
Good prog J 33 [a0, (vint 2), v4] h2 fun v5 h6 =>
aFill [(vint 0), (vint 0), (vint 0)] [(1, 1, v5)] fun c7 =>
aAlloc [(vint 0), (vint 0), (vint 0)] h6 fun v8 h9 =>
aStore 3 v8 (Value.agg ⟨c7⟩) h9 fun h10 =>
(∃ B, aOff v8 1 fun v11 =>
aLoad false 1 v11 h10 fun v12 =>
RdOk (some B) (ptrBlk v11) ∧ (aOff v8 1 fun v13 =>
aLoad false 1 v13 h10 fun v14 =>
RdOk (some B) (ptrBlk v13) ∧ (Good prog J 23 [a0, v14] h10 fun v15 h16 =>
SameB (some B) h10 h16 ∧ ((((1 * 1 : Nat) ≤ 16777216 ∧ (1 : Nat) ≤ 16777216 ∧ List.length [(vint 0)] = 1) ∧ aFill (zrep [(vint 0)] 1) [(0, 1, v15)] fun c17 =>
aNewS 1 c17 h16 fun v18 h19 =>
SameB (some B) h10 h19 ∧ (Good prog J 22 [a0, v12, v18] h19 fun v20 h21 =>
SameB (some B) h10 h21 ∧ (aOff v8 0 fun v22 =>
Good prog J 23 [a0, (vint 6)] h21 fun v23 h24 =>
SameB (some B) h10 h24 ∧ ((((3 * 1 : Nat) ≤ 16777216 ∧ (3 : Nat) ≤ 16777216 ∧ List.length [(vint 0)] = 1) ∧ aFill (zrep [(vint 0)] 3) [(0, 1, (vint 2)), (1, 1, (vint 3)), (2, 1, v23)] fun c25 =>
aNewS 3 c25 h24 fun v26 h27 =>
SameB (some B) h10 h27 ∧ (Good prog J 22 [a0, (vint 1), v26] h27 fun v28 h29 =>
SameB (some B) h10 h29 ∧ (aStore 1 v22 v20 h29 fun h30 =>
aOff v8 2 fun v31 =>
aStore 1 v31 v28 h30 fun h32 =>
aLoad true 3 v8 h32 fun v33 =>
aStore 3 v1 v33 h32 fun h34 =>
RetQ prog [.cell 4 23] h.length K .ret (RG.p (RG.p (RG.p (RG.p (RG.p (RG.p (RG.p (RG.p (RG.p (RG.p (RG.p (RG.p (RG.p (RG.p (RG.p (RG.p (RG.p (RG.p (RG.p (RG.p (RG.p (RG.p (RG.p (RG.p (RG.p (RG.mk (regs [a0, a1]) []) 4 v1) 6 a0) 7 a1) 8 v3) 9 v4) 10 v5) 11 (Value.agg ⟨c7⟩)) 5 v8) 12 a0) 13 v11) 14 v12) 15 a0) 16 v13) 17 v14) 21 a0) 22 a0) 18 v15) 19 v18) 20 v20) 26 v22) 23 v23) 24 v26) 25 v28) 27 v31) 28 v33) h34)))))))))))) := top_eq pok30 ct30 (by kernel_rfl)
theorem g30 (hJ : Closed prog main J) {a0 a1 : Value} (hs : heapOk h → W prog J 29 h.length 30 (codeOf f30) (RG.mk (regs [a0, a1]) []) h (RetQ prog [.cell 4 23] h.length K)) : Good prog J 30 [a0, a1] h K :=
  good_of_W hJ mixed at30 body30 (by kernel_rfl) (Nat.le_of_ble_eq_true rfl) hs
def pl21 : Plans := [(5, false, .take 0 (.take 1 (.take 2 (.take 3 (.take 4 (.take 5 (.take 6 (.take 7 (.take 8 (.take 10 (.take 11 (.take 12 (.take 13 (.take 17 (.last 9 true (.last 14 true (.last 15 true (.last 16 true (.last 18 true (.take 19 (.last 20 true (.last 21 true (.take 22 (.last 23 false (.fin)))))))))))))))))))))))))]
def ct21 : Cuts := .go
theorem pok21 : plansOk prog pl21 (codeOf f21) = true := by kernel_rfl
theorem e21 {a0 a1 a2 : Value} : W prog J 45 h.length 21 (codeOf f21) (RG.mk (regs [a0, a1, a2]) []) h (RetQ prog [.cell 6 26] h.length K) =
(aAlloc [(vint 0), (vint 0), (vint 0), (Value.slice none 0 0)] h fun v1 h2 =>
Good prog J 30 [a0, a2] h2 fun v3 h4 =>
aFill [(vint 0), (vint 0), (vint 0), (Value.slice none 0 0)] [(0, 3, v3)] fun c5 =>
aAlloc [(vint 0), (vint 0), (vint 0), (Value.slice none 0 0)] h4 fun v6 h7 =>
aStore 4 v6 (Value.agg ⟨c5⟩) h7 fun h8 =>
aMin a1 [(vint 3)] fun v9 =>
Good prog J 33 [a0, (vint 1), v9] h8 fun v10 h11 =>
Sem J 45 h.length 21 (subC [1, 1, 0, 1, 0] (codeOf f21)) (RG.p (RG.p (RG.p (RG.p (RG.p (RG.p (RG.p (RG.p (RG.p (RG.p (RG.p (RG.mk (regs [a0, a1, a2]) []) 6 v1) 9 a0) 10 a2) 11 v3) 12 (Value.agg ⟨c5⟩)) 7 v6) 13 a0) 14 a1) 15 v9) 16 v10) 8 v10) h11 (contX pl21 prog J 45 h.length 21 ct21 [1, 1, 0, 1, 0] (codeOf f21) [] (RetQ prog [.cell 6 26] h.length K))) := top_eq pok21 ct21 (by kernel_rfl)
end
end Go.Proofs.Ytindillghipjjaa
namespace Go.Proofs.Ytindillghipjjaa
open Go.Conc Go.Proofs.Try
def drinkOf (t : Tro) (who : Int) : Int := if 0 ≤ who then (droAt t who.toNat).drinks else 0
def nextL (t : Tro) (who now : Int) : Int := min t.well.holds (now - min now (drinkOf t who) + t.well.fill)
def turnOf (r : List Int) (h : Nat) : Int := r.getD (h % r.length) 0
def lvl (t : Tro) (r : List Int) : Nat → Int
  | 0 => t.well.now
  | h + 1 => nextL t (turnOf r h) (lvl t r h)
def dry (t : Tro) (r : List Int) (h : Nat) : Prop := lvl t r h < drinkOf t (turnOf r h)
instance (t : Tro) (r : List Int) (h : Nat) : Decidable (dry t r h) := by unfold dry; infer_instance
structure TroFine (t : Tro) : Prop where
  holds : 1 ≤ t.well.holds ∧ t.well.holds ≤ 40
  now : 0 ≤ t.well.now ∧ t.well.now ≤ t.well.holds
  fill : 0 ≤ t.well.fill ∧ t.well.fill ≤ 20
  len : 1 ≤ t.flocks.length ∧ t.flocks.length ≤ 3
  dro : ∀ d ∈ t.flocks, droOk d
section
variable {t x : Tro} {r : List Int} {h k a b : Nat}
def occ (r : List Int) (f : Int) (i : Nat) : Prop := turnOf r i = f
instance (r : List Int) (f : Int) (i : Nat) : Decidable (occ r f i) := by unfold occ; infer_instance
end
end Go.Proofs.Ytindillghipjjaa
namespace Go.Proofs.Ytindillghipjjaa
open Go.Conc Go.Proofs.Try
set_option maxRecDepth 100000
section
variable {main : Bool} {J : JT} {h H : List AObj} {K : Value → List AObj → Prop} {KV : Value → Prop} {HL : List AObj → Prop} {n0 : Nat} {ns : List Int} {k : Nat}
theorem HX.lt (a : HX h H ns k) : h.length < H.length := by
  obtain ⟨nv, k1, s, rest, rfl, _⟩ := a
  rw [hf_len]
  omega
theorem sb1 {X : List Nat} {p : Nat} {H H' : List AObj} (S : SameX X H H') (hp : p < H.length) (hX : p ∉ X) : SameB (some [p]) H H' := fun b hb => by
  simp at hb
  subst hb
  exact S.2 _ hp hX
theorem ofX (hJ : Closed prog main J) (a : HX h H ns k) (hk : k < 1000000) {x : Int} {others : List Int} {p n c : Nat} (hp : H[p]? = some (.cells (others.map vint) true 0)) (hne : p ≠ h.length) (hn : others.length = n) (hl : n < 1000)
    (hK : ∀ y H', (y = x ∨ y ∈ others) → SameX [h.length] H H' → H'.length = H.length → HX h H' ns (k + 1) → K (vint y) H') : Good prog J 22 [ptr h.length 0, vint x, .slice (some ⟨p, 0, none⟩) n c] H K := by
  subst hn
  obtain ⟨nv, k1, s, rest, rfl, b1, b2, b3⟩ := a
  refine good22 hJ (hf_hand b3.list b3.sane (by omega) b2.1 b2.2) (others := others) (fun h' hd => ?_) (by omega) fun y h1 hy hd => ?_
  · obtain ⟨k', s', c1, c2, c3, rfl⟩ := hf_dealt hd
    have S := hf_same (h := h) (nv := nv) (k1 := k1) (k2 := k') (s1 := s) (s2 := s') (rest := rest) (g := [])
    rw [List.append_nil] at S
    exact sli_new (wr := true) (sz := 0) (S.get hp (by simpa using hne)) (by simp) (kn_ints _)
  · obtain ⟨k', s', c1, c2, c3, rfl⟩ := hf_dealt hd
    have S := hf_same (h := h) (nv := nv) (k1 := k1) (k2 := k') (s1 := s) (s2 := s') (rest := rest) (g := [])
    rw [List.append_nil] at S
    exact hK y _ hy S (by simp [hf_len]) ⟨nv, k', s', rest, rfl, by omega, ⟨c2, c3⟩, b3⟩
structure WelOk (B : Int) (w : Wel) : Prop where
  holds : 2 ≤ w.holds ∧ w.holds ≤ B ∧ w.holds ≤ 40
  now : 0 ≤ w.now ∧ w.now ≤ w.holds
  fill : 0 ≤ w.fill ∧ w.fill ≤ 6
theorem good30 (hJ : Closed prog main J) (a : HX h H ns k) (hk : k < 500000) {B : Int} (hB : 2 ≤ B ∧ B ≤ 1000)
    (hK : ∀ w H', WelOk B w → SameX [h.length] H H' → HX h H' ns (k + 5) → K w.val H') : Good prog J 30 [ptr h.length 0, vint B] H K := by
  refine g30 hJ fun ok => ?_
  rw [e30]
  have hlt := a.lt
  refine qAl fun H1 p1 e1 S1 c1 l1 => minI (maxI ?_)
  have a1 := a.same S1 (by simp)
  refine amX hJ a1 (by omega) (by omega) (by omega) fun hd H2 b1 b2 S2 l2 a2 => ?_
  refine fill_one rfl rfl rfl (by decide) (fillI ?_)
  refine qAl fun H3 p3 e3 S3 c3 l3 => qStA (c := [vint 0, vint hd, vint 0]) c3 rfl rfl rfl fun H4 S4 c4 l4 => ?_
  have a4 := (a2.same S3 (by simp)).same S4 (by simp; omega)
  refine ⟨[p3], offI (ldI (v := vint hd) c4 rfl rfl ⟨by simp [RdOk, ptrBlk, ptr], offI (ldI (v := vint hd) c4 rfl rfl ⟨by simp [RdOk, ptrBlk, ptr], ?_⟩)⟩)⟩
  have hp4 : p3 < H4.length := lt_of_get c4
  refine upX hJ a4 (by omega) (by omega) fun now H5 d1 d2 S5 l5 a5 => ⟨sb1 S5 hp4 (by simp; omega), ⟨by decide, fill_one rfl rfl rfl (by decide) (fillI (qNew fun H6 p6 e6 S6 c6 l6 => ?_))⟩⟩
  have c6 : H6[p6]? = some (.cells ([now].map vint) true 0) := c6
  have T6 : SameX [h.length] H4 H6 := S5.trans S6.weak0
  refine ⟨sb1 T6 hp4 (by simp; omega), ?_⟩
  have a6 := a5.same S6 (by simp)
  refine ofX hJ a6 (by omega) c6 (by omega) rfl (by simp) fun nw H7 m7 S7 l7 a7 => ?_
  have T7 : SameX [h.length] H4 H7 := T6.trans S7
  refine ⟨sb1 T7 hp4 (by simp; omega), offI ?_⟩
  refine upX hJ a7 (by omega) (by omega) fun f0 H8 g1 g2 S8 l8 a8 => ?_
  have T8 : SameX [h.length] H4 H8 := T7.trans S8
  refine ⟨sb1 T8 hp4 (by simp; omega), ⟨by decide, fill_one rfl rfl rfl (by decide) (fill_one rfl rfl rfl (by decide) (fill_one rfl rfl rfl (by decide) (fillI (qNew fun H9 p9 e9 S9 c9 l9 => ?_))))⟩⟩
  have c9 : H9[p9]? = some (.cells ([2, 3, f0].map vint) true 0) := c9
  have T9 : SameX [h.length] H4 H9 := T8.trans S9.weak0
  refine ⟨sb1 T9 hp4 (by simp; omega), ?_⟩
  have hh := a8.lt
  have a9 := a8.same S9 (by simp)
  refine ofX hJ a9 (by omega) c9 (by omega) rfl (by simp) fun fl H10 m10 S10 l10 a10 => ?_
  have T10 : SameX [h.length] H4 H10 := T9.trans S10
  refine ⟨sb1 T10 hp4 (by simp; omega), ?_⟩
  refine qSt (T10.get c4 (by simp; omega)) (by simp) rfl rfl fun H11 S11 c11 l11 => offI (qSt c11 (by simp) rfl rfl fun H12 S12 c12 l12 => ?_)
  refine load_part (c := [vint nw, vint hd, vint fl]) c12 (by simp) rfl rfl ?_
  have T1 : SameX [h.length] H H1 := S1.weak0
  have T4 : SameX [h.length] H H4 := ((T1.trans S2).trans S3.weak0).thru S4 (by simp; omega)
  have T12 : SameX [h.length] H H12 := ((T4.trans T10).thru S11 (by simp; omega)).thru S12 (by simp; omega)
  have c1' : H12[p1]? = some (.cells [vint 0, vint 0, vint 0] true 0) := S12.get (S11.get (T10.get (S4.get (S3.get (S2.get c1 (by simp; omega)) (by simp)) (by simp; omega)) (by simp; omega)) (by simp; omega)) (by simp; omega)
  refine qStA (c := [vint nw, vint hd, vint fl]) c1' rfl rfl rfl fun H13 S13 c13 l13 => ?_
  refine retQ_same rfl (resW_cell (gg := true) (s := 3) (by kernel_rfl) (load_part (c := [vint nw, vint hd, vint fl]) c13 (by simp) rfl rfl (resW_nil ?_)))
  refine hK ⟨nw, hd, fl⟩ H13 ⟨?_, ?_, ?_⟩ (T12.thru S13 (by simp; omega)) (((a10.same S11 (by simp; omega)).same S12 (by simp; omega)).same S13 (by simp; omega))
  · show 2 ≤ hd ∧ hd ≤ B ∧ hd ≤ 40
    omega
  · show 0 ≤ nw ∧ nw ≤ hd
    rcases m7 with rfl | m7
    · omega
    · simp at m7
      omega
  · show 0 ≤ fl ∧ fl ≤ 6
    rcases m10 with rfl | m10
    · omega
    · simp at m10
      omega
structure TroOk (F B : Int) (t : Tro) : Prop where
  well : WelOk B t.well
  len : 1 ≤ t.flocks.length ∧ (t.flocks.length : Int) ≤ F
  dro : ∀ d ∈ t.flocks, (1 ≤ d.drinks ∧ d.drinks ≤ 40) ∧ (1 ≤ d.every ∧ d.every ≤ 6)
theorem TroOk.fine {F B : Int} {t : Tro} (o : TroOk F B t) (hF : F ≤ 3) : TroFine t := by
  obtain ⟨⟨h1, h2, h3⟩, h4, h5⟩ := o
  refine ⟨by omega, h2, by omega, by omega, fun d hd => ?_⟩
  have := h5 d hd
  exact ⟨this.1, by omega⟩
structure TroO (h H : List AObj) (t : Tro) (fv : Value) (o : Option Nat) : Prop where
  fl : OwnX H 2 (t.flocks.flatMap Dro.cells) t.flocks.length fv o
  b : ∀ i, o = some i → h.length < i
theorem TroO.at {t : Tro} {fv : Value} {o : Option Nat} (a : TroO h H t fv o) : TroAt H (.agg ⟨troCells t fv⟩) t fv := ⟨rfl, ownX_sli a.fl⟩
theorem TroO.same {H' : List AObj} {t : Tro} {fv : Value} {o : Option Nat} {X : List Nat} (a : TroO h H t fv o) (S : SameX X H H') (hX : ∀ i, o = some i → i ∉ X) : TroO h H' t fv o := ⟨ownX_keep a.fl S hX, a.b⟩
structure RotO (h H : List AObj) (r : List Int) (v : Value) (o : Option Nat) : Prop where
  l : OwnX H 1 (r.map vint) r.length v o
  b : ∀ i, o = some i → h.length < i
theorem RotO.sli {r : List Int} {v : Value} {o : Option Nat} (a : RotO h H r v o) : Sli H v 1 r.length (r.map vint) := ownX_sli a.l
theorem RotO.same {H' : List AObj} {r : List Int} {v : Value} {o : Option Nat} {X : List Nat} (a : RotO h H r v o) (S : SameX X H H') (hX : ∀ i, o = some i → i ∉ X) : RotO h H' r v o := ⟨ownX_keep a.l S hX, a.b⟩
end
def Till (n : Nat) (O : List Nat) (h H : List AObj) : Prop := h.length ≤ H.length ∧ ∀ i, i < n ∨ i ∈ O → H[i]? = h[i]?
section
variable {main : Bool} {J : JT} {h H : List AObj} {K : Value → List AObj → Prop} {KV : Value → Prop} {n0 : Nat}
theorem ownX_to {H' : List AObj} {s len : Nat} {cs : List Value} {v : Value} {o : Option Nat} (ho : OwnX H s cs len v o) (e : ∀ i, o = some i → H'[i]? = H[i]?) : OwnX H' s cs len v o := by
  obtain ⟨h1, h2, h3 | ⟨i, c, sz, rfl, h4, h5, h6⟩⟩ := ho
  · exact ⟨h1, h2, .inl h3⟩
  · exact ⟨h1, h2, .inr ⟨i, c, sz, rfl, h4, by rw [e i rfl]; exact h5, h6⟩⟩
def GrowI (po : Nat) (L : Nat → List Int) (k : Nat) (O : List Nat) (H : List AObj) : Prop :=
  ∃ lv o, O = Option.toList o ∧ H[po]? = some (.cells [lv] true 0) ∧ OwnX H 1 ((L k).map vint) (L k).length lv o ∧ (∀ i, o = some i → i ≠ po) ∧ (L k).length ≤ k
theorem GrowI.lt {po k : Nat} {L : Nat → List Int} {O : List Nat} (a : GrowI po L k O H) : ∀ x ∈ O, x < H.length := by
  obtain ⟨lv, o, rfl, c, A, ho, hl⟩ := a
  intro x hx
  exact ownX_lt A x (by simpa using hx)
theorem GrowI.to {po k n : Nat} {L : Nat → List Int} {O : List Nat} {H1 H2 : List AObj} (hp : po < n) (T : Till n O H1 H2) (a : GrowI po L k O H1) : GrowI po L k O H2 := by
  obtain ⟨lv, o, rfl, c, A, ho, hl⟩ := a
  exact ⟨lv, o, rfl, by rw [T.2 po (.inl hp)]; exact c, ownX_to A fun i hi => T.2 i (.inr (by simpa using hi)), ho, hl⟩
end
section
variable {main : Bool} {J : JT} {h H : List AObj} {K : Value → List AObj → Prop} {KV : Value → Prop} {HL : List AObj → Prop} {n0 : Nat}
theorem good83 (hJ : Closed prog main J) {w : Wel} (hK : ∀ H', SameX [] H H' → K (vint (welE w)) H') : Good prog J 83 [.agg ⟨w.cells⟩] H K := by
  refine g83 hJ fun ok => ?_
  rw [e83]
  refine qBox (l := w.cells) rfl fun H1 p1 e1 S1 c1 l1 => ?_
  have fin : ∀ {F' : RG} {p : Prop} [Decidable p], F'.ds = [] → F'.r 20 = .bool (decide p) → (p ↔ ¬ ((1 ≤ w.holds ∧ w.holds ≤ 40) ∧ (0 ≤ w.now ∧ w.now ≤ w.holds) ∧ (0 ≤ w.fill ∧ w.fill ≤ 20))) →
      W prog J 21 H.length 83 (subC [1, 0, 1] (codeOf f83)) F' H1 (contX pl83 prog J 21 H.length 83 ct83 [1, 0, 1] (codeOf f83) [] (RetQ prog [.tmp 2] H.length K)) := by
    intro F' p _ ds r20 hp
    rw [s83_1, r20, ds]
    have e := hK H1 S1
    unfold welE at e
    refine cndI (fun h1 => retL_same (by simp [unk]) ?_) fun h1 => retL_same (by simp [unk]) ?_
    · rw [if_neg (hp.1 h1)] at e
      exact e
    · rw [if_pos (Decidable.of_not_not fun y => h1 (hp.2 y))] at e
      exact e
  refine offI (ldI (v := vint w.holds) c1 rfl rfl (good75 hJ (notI (cndN (fun g1 => hold.2 ?_) fun g1 => ?_))))
  · exact fin (p := True) rfl rfl ⟨fun _ y => g1 y.1, fun _ => trivial⟩
  refine offI (ldI (v := vint w.now) c1 rfl rfl (offI (ldI (v := vint w.holds) c1 rfl rfl (good75 hJ (notI (cndN (fun g2 => hold.2 ?_) fun g2 => ?_))))))
  · exact fin (p := True) rfl rfl ⟨fun _ y => g2 y.2.1, fun _ => trivial⟩
  refine offI (ldI (v := vint w.fill) c1 rfl rfl (good75 hJ (notI (hold.2 ?_))))
  refine fin (p := ¬ (0 ≤ w.fill ∧ w.fill ≤ 20)) rfl ?_ ⟨fun y z => y z.2.2, fun y z => y ⟨g1, g2, z⟩⟩
  show Value.bool (!decide _) = _
  rw [decide_not]
end
end Go.Proofs.Ytindillghipjjaa
namespace Go.Proofs.Ytindillghipjjaa
open Go.Conc Go.Proofs.Try
set_option maxRecDepth 100000
set_option maxHeartbeats 4000000
set_option linter.unusedVariables false
section
variable {main : Bool} {J : JT} {n0 : Nat} {h : List AObj} {K : Value → List AObj → Prop}
theorem at80 : prog.funcs[80]? = some f80 := by kernel_rfl
theorem body80 : f80.body = some (codeOf f80) := by kernel_rfl
def pl80 : Plans := []
def ct80 : Cuts := .go
theorem pok80 : plansOk prog pl80 (codeOf f80) = true := by kernel_rfl
theorem e80 {a0 a1 a2 : Value} : W prog J 19 h.length 80 (codeOf f80) (RG.mk (regs [a0, a1, a2]) []) h (RetQ prog [.tmp 6, .tmp 7] h.length K) =
(Sem J 19 h.length 80 (subC [1, 0, 1, 0] (codeOf f80)) (RG.p (RG.p (RG.p (RG.p (RG.mk (regs [a0, a1, a2]) []) 6 (vint 0)) 7 (Value.bool false)) 9 a0) 8 a0) h (contX pl80 prog J 19 h.length 80 ct80 [1, 0, 1, 0] (codeOf f80) [] (RetQ prog [.tmp 6, .tmp 7] h.length K))) := top_eq pok80 ct80 (by kernel_rfl)
theorem g80 (hJ : Closed prog main J) {a0 a1 a2 : Value} (hs : heapOk h → W prog J 19 h.length 80 (codeOf f80) (RG.mk (regs [a0, a1, a2]) []) h (RetQ prog [.tmp 6, .tmp 7] h.length K)) : Good prog J 80 [a0, a1, a2] h K :=
  good_of_W hJ mixed at80 body80 (by kernel_rfl) (Nat.le_of_ble_eq_true rfl) hs
theorem s80_1 {f : RG} {nx0 : RG → List AObj → Prop} : W prog J 19 n0 80 (subC [1, 0, 1, 0, 0] (codeOf f80)) f h (thenK nx0 (contX pl80 prog J 19 n0 80 ct80 [1, 0, 1, 0] (codeOf f80) [] (RetQ prog [.tmp 6, .tmp 7] n0 K))) =
(aBin prog .leq 3 (f.r 8) (f.r 1) fun v1 =>
cnd v1
(callV prog (Good prog J) (f.r 2) [(f.r 8)] h fun v2 h3 =>
cnd v2
(retL n0 K f.ds [(f.r 8), (Value.bool true)] h3)
(aBin prog .add 3 (f.r 8) (vint 1) fun v4 =>
nx0 (RG.p (RG.p (RG.p (RG.p (RG.p (RG.p (RG.p (RG.p (RG.p f 10 (f.r 8)) 11 (f.r 1)) 12 v1) 15 (f.r 2)) 16 (f.r 8)) 17 v2) 13 (f.r 8)) 14 v4) 8 v4) h3))
(retL n0 K f.ds [(vint 0), (Value.bool false)] h)) := sub_eq pok80 ct80 (by kernel_rfl)
theorem l80_1 (hJ : Closed prog main J) {S : Type} (μ : S → Nat) (I : S → RG → List AObj → Prop) (hI : ∀ s f h, I s f h → heapOk h → n0 ≤ h.length → W prog J 19 n0 80 (subC [1, 0, 1, 0, 0] (codeOf f80)) f h (thenK (Nx n0 μ I s) (contX pl80 prog J 19 n0 80 ct80 [1, 0, 1, 0] (codeOf f80) [] (RetQ prog [.tmp 6, .tmp 7] n0 K))))
  {s : S} {f : RG} (hi : Gets n0 I s f h) : Sem J 19 n0 80 (subC [1, 0, 1, 0] (codeOf f80)) f h (contX pl80 prog J 19 n0 80 ct80 [1, 0, 1, 0] (codeOf f80) [] (RetQ prog [.tmp 6, .tmp 7] n0 K)) :=
  loop_rule hJ mixed (b := subC [1, 0, 1, 0, 0] (codeOf f80)) (by kernel_rfl) μ I hI hi
def pl14 : Plans := []
def ct14 : Cuts := .bin (.go) (.bin (.go) (.bin (.go) (.bin (.go) (.bin (.bin (.go) (.cut (.go))) (.bin (.bin (.go) (.un (.un (.bin (.go) (.bin (.un (.bin (.go) (.bin (.go) (.cut (.bin (.go) (.cut (.bin (.bin (.go) (.cut (.go))) (.bin (.go) (.un (.un (.bin (.go) (.bin (.un (.bin (.go) (.bin (.go) (.cut (.bin (.go) (.bin (.go) (.cut (.go)))))))) (.go))))))))))))) (.go)))))) (.go))))))
theorem pok14 : plansOk prog pl14 (codeOf f14) = true := by kernel_rfl
theorem e14 {a0 : Value} : W prog J 116 h.length 14 (codeOf f14) (RG.mk (regs [a0]) []) h (RetQ prog [.tmp 2] h.length K) =
(Good prog J 20 [a0] h fun v1 h2 =>
Good prog J 21 [v1, (vint 2), (vint 10)] h2 fun v3 h4 =>
aAlloc [(vint 0), (vint 0), (vint 0), (Value.slice none 0 0)] h4 fun v5 h6 =>
aStore 4 v5 v3 h6 fun h7 =>
aLoad true 4 v5 h7 fun v8 =>
Good prog J 55 [v8] h7 fun v9 h10 =>
aExt v9 0 fun v11 =>
aExt v9 1 fun v12 =>
aLoad true 4 v5 h10 fun v13 =>
Good prog J 57 [v13] h10 fun v14 h15 =>
aExt v14 0 fun v16 =>
aExt v14 1 fun v17 =>
aBin prog .neq 39 v12 (vint 0) fun v18 =>
cnd v18
(aBin prog .neq 39 v12 (vint 11) fun v19 =>
cnd v19
(Hold (W prog J 116 h.length 14 (subC [1, 1, 1, 1, 0, 1] (codeOf f14)) (RG.p (RG.p (RG.p (RG.p (RG.p (RG.p (RG.p (RG.p (RG.p (RG.p (RG.p (RG.p (RG.p (RG.p (RG.p (RG.p (RG.p (RG.p (RG.p (RG.p (RG.p (RG.p (RG.p (RG.p (RG.p (RG.p (RG.p (RG.p (RG.p (RG.p (RG.p (RG.p (RG.p (RG.p (RG.p (RG.mk (regs [a0]) []) 2 (Value.bool false)) 17 a0) 18 v1) 19 v3) 3 v5) 21 v8) 22 v9) 20 v9) 23 v11) 24 v12) 4 v11) 5 v12) 26 v13) 27 v14) 25 v14) 28 v16) 29 v17) 6 v16) 7 v17) 30 v12) 31 v18) 32 v18) 32 (Value.bool true)) 33 v12) 34 v19) 35 v19) 36 v19) 36 (Value.bool true)) 37 undef) 38 undef) 39 undef) 40 undef) 41 undef) 42 undef) 43 (Value.bool true)) h15 (contX pl14 prog J 116 h.length 14 ct14 [1, 1, 1, 1, 0, 1] (codeOf f14) [] (RetQ prog [.tmp 2] h.length K))))
(aBin prog .neq 39 v17 (vint 0) fun v20 =>
cnd v20
(aBin prog .neq 39 v17 (vint 11) fun v21 =>
Hold (W prog J 116 h.length 14 (subC [1, 1, 1, 1, 0, 1] (codeOf f14)) (RG.p (RG.p (RG.p (RG.p (RG.p (RG.p (RG.p (RG.p (RG.p (RG.p (RG.p (RG.p (RG.p (RG.p (RG.p (RG.p (RG.p (RG.p (RG.p (RG.p (RG.p (RG.p (RG.p (RG.p (RG.p (RG.p (RG.p (RG.p (RG.p (RG.p (RG.p (RG.p (RG.p (RG.p (RG.p (RG.p (RG.mk (regs [a0]) []) 2 (Value.bool false)) 17 a0) 18 v1) 19 v3) 3 v5) 21 v8) 22 v9) 20 v9) 23 v11) 24 v12) 4 v11) 5 v12) 26 v13) 27 v14) 25 v14) 28 v16) 29 v17) 6 v16) 7 v17) 30 v12) 31 v18) 32 v18) 32 (Value.bool true)) 33 v12) 34 v19) 35 v19) 36 v19) 36 (Value.bool false)) 37 v17) 38 v20) 39 v20) 39 (Value.bool true)) 40 v17) 41 v21) 42 v21) 43 v21) h15 (contX pl14 prog J 116 h.length 14 ct14 [1, 1, 1, 1, 0, 1] (codeOf f14) [] (RetQ prog [.tmp 2] h.length K))))
(Hold (W prog J 116 h.length 14 (subC [1, 1, 1, 1, 0, 1] (codeOf f14)) (RG.p (RG.p (RG.p (RG.p (RG.p (RG.p (RG.p (RG.p (RG.p (RG.p (RG.p (RG.p (RG.p (RG.p (RG.p (RG.p (RG.p (RG.p (RG.p (RG.p (RG.p (RG.p (RG.p (RG.p (RG.p (RG.p (RG.p (RG.p (RG.p (RG.p (RG.p (RG.p (RG.p (RG.p (RG.p (RG.p (RG.mk (regs [a0]) []) 2 (Value.bool false)) 17 a0) 18 v1) 19 v3) 3 v5) 21 v8) 22 v9) 20 v9) 23 v11) 24 v12) 4 v11) 5 v12) 26 v13) 27 v14) 25 v14) 28 v16) 29 v17) 6 v16) 7 v17) 30 v12) 31 v18) 32 v18) 32 (Value.bool true)) 33 v12) 34 v19) 35 v19) 36 v19) 36 (Value.bool false)) 37 v17) 38 v20) 39 v20) 39 (Value.bool false)) 40 undef) 41 undef) 42 (Value.bool false)) 43 (Value.bool false)) h15 (contX pl14 prog J 116 h.length 14 ct14 [1, 1, 1, 1, 0, 1] (codeOf f14) [] (RetQ prog [.tmp 2] h.length K))))))
(aBin prog .neq 39 v17 (vint 0) fun v22 =>
cnd v22
(aBin prog .neq 39 v17 (vint 11) fun v23 =>
Hold (W prog J 116 h.length 14 (subC [1, 1, 1, 1, 0, 1] (codeOf f14)) (RG.p (RG.p (RG.p (RG.p (RG.p (RG.p (RG.p (RG.p (RG.p (RG.p (RG.p (RG.p (RG.p (RG.p (RG.p (RG.p (RG.p (RG.p (RG.p (RG.p (RG.p (RG.p (RG.p (RG.p (RG.p (RG.p (RG.p (RG.p (RG.p (RG.p (RG.p (RG.p (RG.p (RG.p (RG.p (RG.p (RG.mk (regs [a0]) []) 2 (Value.bool false)) 17 a0) 18 v1) 19 v3) 3 v5) 21 v8) 22 v9) 20 v9) 23 v11) 24 v12) 4 v11) 5 v12) 26 v13) 27 v14) 25 v14) 28 v16) 29 v17) 6 v16) 7 v17) 30 v12) 31 v18) 32 v18) 32 (Value.bool false)) 33 undef) 34 undef) 35 (Value.bool false)) 36 (Value.bool false)) 36 (Value.bool false)) 37 v17) 38 v22) 39 v22) 39 (Value.bool true)) 40 v17) 41 v23) 42 v23) 43 v23) h15 (contX pl14 prog J 116 h.length 14 ct14 [1, 1, 1, 1, 0, 1] (codeOf f14) [] (RetQ prog [.tmp 2] h.length K))))
(Hold (W prog J 116 h.length 14 (subC [1, 1, 1, 1, 0, 1] (codeOf f14)) (RG.p (RG.p (RG.p (RG.p (RG.p (RG.p (RG.p (RG.p (RG.p (RG.p (RG.p (RG.p (RG.p (RG.p (RG.p (RG.p (RG.p (RG.p (RG.p (RG.p (RG.p (RG.p (RG.p (RG.p (RG.p (RG.p (RG.p (RG.p (RG.p (RG.p (RG.p (RG.p (RG.p (RG.p (RG.p (RG.p (RG.mk (regs [a0]) []) 2 (Value.bool false)) 17 a0) 18 v1) 19 v3) 3 v5) 21 v8) 22 v9) 20 v9) 23 v11) 24 v12) 4 v11) 5 v12) 26 v13) 27 v14) 25 v14) 28 v16) 29 v17) 6 v16) 7 v17) 30 v12) 31 v18) 32 v18) 32 (Value.bool false)) 33 undef) 34 undef) 35 (Value.bool false)) 36 (Value.bool false)) 36 (Value.bool false)) 37 v17) 38 v22) 39 v22) 39 (Value.bool false)) 40 undef) 41 undef) 42 (Value.bool false)) 43 (Value.bool false)) h15 (contX pl14 prog J 116 h.length 14 ct14 [1, 1, 1, 1, 0, 1] (codeOf f14) [] (RetQ prog [.tmp 2] h.length K)))))) := top_eq pok14 ct14 (by kernel_rfl)
end
section
variable {main : Bool} {J : JT} {n0 : Nat} {h : List AObj} {K : Value → List AObj → Prop}
theorem at5 : prog.funcs[5]? = some f5 := by kernel_rfl
theorem body5 : f5.body = some (codeOf f5) := by kernel_rfl
def pl5 : Plans := [(5, false, .take 0 (.take 1 (.take 2 (.take 3 (.take 4 (.take 5 (.take 6 (.take 8 (.take 9 (.take 10 (.take 11 (.last 7 true (.take 13 (.take 14 (.last 12 false (.last 15 false (.take 16 (.take 17 (.last 18 false (.fin)))))))))))))))))))),
  (14, true, .take 0 (.take 1 (.take 2 (.take 3 (.take 4 (.take 5 (.take 6 (.take 7 (.take 8 (.fin))))))))))]
def ct5 : Cuts := .bin (.go) (.bin (.go) (.bin (.go) (.bin (.go) (.bin (.go) (.bin (.go) (.bin (.go) (.bin (.go) (.bin (.go) (.bin (.bin (.go) (.cut (.go))) (.bin (.go) (.bin (.go) (.bin (.go) (.bin (.bin (.go) (.cut (.go))) (.go))))))))))))))
theorem pok5 : plansOk prog pl5 (codeOf f5) = true := by kernel_rfl
theorem e5 {a0 : Value} : W prog J 171 h.length 5 (codeOf f5) (RG.mk (regs [a0]) []) h (RetQ prog [.tmp 2] h.length K) =
(Good prog J 20 [a0] h fun v1 h2 =>
Good prog J 21 [v1, (vint 2), (vint 10)] h2 fun v3 h4 =>
aAlloc [(vint 0), (vint 0), (vint 0), (Value.slice none 0 0)] h4 fun v5 h6 =>
aStore 4 v5 v3 h6 fun h7 =>
aLoad true 4 v5 h7 fun v8 =>
Good prog J 24 [v8] h7 fun v9 h10 =>
aAlloc [(vint 0), (vint 0), (vint 0), (Value.slice none 0 0)] h10 fun v11 h12 =>
aStore 4 v11 v9 h12 fun h13 =>
aOff v5 0 fun v14 =>
aOff v14 1 fun v15 =>
aLoad false 1 v15 h13 fun v16 =>
Good prog J 33 [v1, v16, (vint 14)] h13 fun v17 h18 =>
aOff v11 0 fun v19 =>
aOff v19 1 fun v20 =>
aStore 1 v20 v17 h18 fun h21 =>
(∃ B, aOff v5 0 fun v22 =>
aOff v22 0 fun v23 =>
aLoad false 1 v23 h21 fun v24 =>
RdOk (some B) (ptrBlk v23) ∧ (aOff v11 0 fun v25 =>
aOff v25 1 fun v26 =>
aLoad false 1 v26 h21 fun v27 =>
RdOk (some B) (ptrBlk v26) ∧ (aOff v5 0 fun v28 =>
aOff v28 2 fun v29 =>
aLoad false 1 v29 h21 fun v30 =>
RdOk (some B) (ptrBlk v29) ∧ (Good prog J 33 [v1, v24, v27] h21 fun v31 h32 =>
SameB (some B) h21 h32 ∧ (aOff v11 0 fun v33 =>
aOff v33 0 fun v34 =>
Good prog J 33 [v1, v30, (vint 8)] h32 fun v35 h36 =>
aStore 1 v34 v31 h36 fun h37 =>
aOff v11 0 fun v38 =>
aOff v38 2 fun v39 =>
aStore 1 v39 v35 h37 fun h40 =>
aLoad true 4 v5 h40 fun v41 =>
Good prog J 36 [v1, v41, (vint 5)] h40 fun v42 h43 =>
aLoad true 4 v5 h43 fun v44 =>
Good prog J 37 [v44, v42, (vint 40)] h43 fun v45 h46 =>
aExt v45 0 fun v47 =>
aExt v45 1 fun v48 =>
aLoad true 4 v11 h46 fun v49 =>
Good prog J 37 [v49, v42, (vint 40)] h46 fun v50 h51 =>
aExt v50 0 fun v52 =>
aExt v50 1 fun v53 =>
aBin prog .neq 39 v48 (vint 0) fun v54 =>
cnd v54
(Hold (W prog J 171 h.length 5 (subC [1, 1, 1, 1, 1, 1, 1, 1, 1, 0, 1] (codeOf f5)) (RG.p (RG.p (RG.p (RG.p (RG.p (RG.p (RG.p (RG.p (RG.p (RG.p (RG.p (RG.p (RG.p (RG.p (RG.p (RG.p (RG.p (RG.p (RG.p (RG.p (RG.p (RG.p (RG.p (RG.p (RG.p (RG.p (RG.p (RG.p (RG.p (RG.p (RG.p (RG.p (RG.p (RG.p (RG.p (RG.p (RG.p (RG.p (RG.p (RG.p (RG.p (RG.p (RG.p (RG.p (RG.p (RG.p (RG.p (RG.p (RG.p (RG.p (RG.p (RG.p (RG.p (RG.p (RG.p (RG.p (RG.p (RG.p (RG.p (RG.p (RG.p (RG.p (RG.p (RG.p (RG.p (RG.p (RG.p (RG.p (RG.p (RG.p (RG.p (RG.p (RG.p (RG.mk (regs [a0]) []) 2 (Value.bool false)) 16 a0) 17 v1) 3 v1) 18 v1) 19 v3) 4 v5) 20 v8) 21 v9) 5 v11) 22 v1) 23 v14) 24 v15) 25 v16) 26 v17) 27 v19) 28 v20) 29 v1) 30 v22) 31 v23) 32 v24) 33 v25) 34 v26) 35 v27) 37 v1) 38 v28) 39 v29) 40 v30) 36 v31) 42 v33) 43 v34) 41 v35) 44 v38) 45 v39) 46 v1) 47 v41) 48 v42) 6 v42) 50 v44) 51 v42) 52 v45) 49 v45) 53 v47) 54 v48) 7 v47) 8 v48) 56 v49) 57 v42) 58 v50) 55 v50) 59 v52) 60 v53) 9 v52) 10 v53) 61 v48) 62 v54) 63 v54) 63 (Value.bool true)) 64 undef) 65 undef) 66 (Value.bool true)) 67 (Value.bool true)) 67 (Value.bool true)) 68 undef) 69 undef) 70 undef) 71 (Value.bool true)) 72 (Value.bool true)) 72 (Value.bool true)) 73 undef) 74 undef) 75 undef) 76 (Value.bool true)) h51 (contX pl5 prog J 171 h.length 5 ct5 [1, 1, 1, 1, 1, 1, 1, 1, 1, 0, 1] (codeOf f5) [] (RetQ prog [.tmp 2] h.length K))))
(aBin prog .neq 39 v53 (vint 0) fun v55 =>
cnd v55
(Hold (W prog J 171 h.length 5 (subC [1, 1, 1, 1, 1, 1, 1, 1, 1, 0, 1] (codeOf f5)) (RG.p (RG.p (RG.p (RG.p (RG.p (RG.p (RG.p (RG.p (RG.p (RG.p (RG.p (RG.p (RG.p (RG.p (RG.p (RG.p (RG.p (RG.p (RG.p (RG.p (RG.p (RG.p (RG.p (RG.p (RG.p (RG.p (RG.p (RG.p (RG.p (RG.p (RG.p (RG.p (RG.p (RG.p (RG.p (RG.p (RG.p (RG.p (RG.p (RG.p (RG.p (RG.p (RG.p (RG.p (RG.p (RG.p (RG.p (RG.p (RG.p (RG.p (RG.p (RG.p (RG.p (RG.p (RG.p (RG.p (RG.p (RG.p (RG.p (RG.p (RG.p (RG.p (RG.p (RG.p (RG.p (RG.p (RG.p (RG.p (RG.p (RG.p (RG.p (RG.p (RG.p (RG.mk (regs [a0]) []) 2 (Value.bool false)) 16 a0) 17 v1) 3 v1) 18 v1) 19 v3) 4 v5) 20 v8) 21 v9) 5 v11) 22 v1) 23 v14) 24 v15) 25 v16) 26 v17) 27 v19) 28 v20) 29 v1) 30 v22) 31 v23) 32 v24) 33 v25) 34 v26) 35 v27) 37 v1) 38 v28) 39 v29) 40 v30) 36 v31) 42 v33) 43 v34) 41 v35) 44 v38) 45 v39) 46 v1) 47 v41) 48 v42) 6 v42) 50 v44) 51 v42) 52 v45) 49 v45) 53 v47) 54 v48) 7 v47) 8 v48) 56 v49) 57 v42) 58 v50) 55 v50) 59 v52) 60 v53) 9 v52) 10 v53) 61 v48) 62 v54) 63 v54) 63 (Value.bool false)) 64 v53) 65 v55) 66 v55) 67 v55) 67 (Value.bool true)) 68 undef) 69 undef) 70 undef) 71 (Value.bool true)) 72 (Value.bool true)) 72 (Value.bool true)) 73 undef) 74 undef) 75 undef) 76 (Value.bool true)) h51 (contX pl5 prog J 171 h.length 5 ct5 [1, 1, 1, 1, 1, 1, 1, 1, 1, 0, 1] (codeOf f5) [] (RetQ prog [.tmp 2] h.length K))))
(aLenS v47 fun v56 =>
aBin prog .neq 3 v56 (vint 40) fun v57 =>
cnd v57
(Hold (W prog J 171 h.length 5 (subC [1, 1, 1, 1, 1, 1, 1, 1, 1, 0, 1] (codeOf f5)) (RG.p (RG.p (RG.p (RG.p (RG.p (RG.p (RG.p (RG.p (RG.p (RG.p (RG.p (RG.p (RG.p (RG.p (RG.p (RG.p (RG.p (RG.p (RG.p (RG.p (RG.p (RG.p (RG.p (RG.p (RG.p (RG.p (RG.p (RG.p (RG.p (RG.p (RG.p (RG.p (RG.p (RG.p (RG.p (RG.p (RG.p (RG.p (RG.p (RG.p (RG.p (RG.p (RG.p (RG.p (RG.p (RG.p (RG.p (RG.p (RG.p (RG.p (RG.p (RG.p (RG.p (RG.p (RG.p (RG.p (RG.p (RG.p (RG.p (RG.p (RG.p (RG.p (RG.p (RG.p (RG.p (RG.p (RG.p (RG.p (RG.p (RG.p (RG.p (RG.p (RG.p (RG.mk (regs [a0]) []) 2 (Value.bool false)) 16 a0) 17 v1) 3 v1) 18 v1) 19 v3) 4 v5) 20 v8) 21 v9) 5 v11) 22 v1) 23 v14) 24 v15) 25 v16) 26 v17) 27 v19) 28 v20) 29 v1) 30 v22) 31 v23) 32 v24) 33 v25) 34 v26) 35 v27) 37 v1) 38 v28) 39 v29) 40 v30) 36 v31) 42 v33) 43 v34) 41 v35) 44 v38) 45 v39) 46 v1) 47 v41) 48 v42) 6 v42) 50 v44) 51 v42) 52 v45) 49 v45) 53 v47) 54 v48) 7 v47) 8 v48) 56 v49) 57 v42) 58 v50) 55 v50) 59 v52) 60 v53) 9 v52) 10 v53) 61 v48) 62 v54) 63 v54) 63 (Value.bool false)) 64 v53) 65 v55) 66 v55) 67 v55) 67 (Value.bool false)) 68 v47) 69 v56) 70 v57) 71 v57) 72 v57) 72 (Value.bool true)) 73 undef) 74 undef) 75 undef) 76 (Value.bool true)) h51 (contX pl5 prog J 171 h.length 5 ct5 [1, 1, 1, 1, 1, 1, 1, 1, 1, 0, 1] (codeOf f5) [] (RetQ prog [.tmp 2] h.length K))))
(aLenS v52 fun v58 =>
aBin prog .neq 3 v58 (vint 40) fun v59 =>
Hold (W prog J 171 h.length 5 (subC [1, 1, 1, 1, 1, 1, 1, 1, 1, 0, 1] (codeOf f5)) (RG.p (RG.p (RG.p (RG.p (RG.p (RG.p (RG.p (RG.p (RG.p (RG.p (RG.p (RG.p (RG.p (RG.p (RG.p (RG.p (RG.p (RG.p (RG.p (RG.p (RG.p (RG.p (RG.p (RG.p (RG.p (RG.p (RG.p (RG.p (RG.p (RG.p (RG.p (RG.p (RG.p (RG.p (RG.p (RG.p (RG.p (RG.p (RG.p (RG.p (RG.p (RG.p (RG.p (RG.p (RG.p (RG.p (RG.p (RG.p (RG.p (RG.p (RG.p (RG.p (RG.p (RG.p (RG.p (RG.p (RG.p (RG.p (RG.p (RG.p (RG.p (RG.p (RG.p (RG.p (RG.p (RG.p (RG.p (RG.p (RG.p (RG.p (RG.p (RG.p (RG.p (RG.mk (regs [a0]) []) 2 (Value.bool false)) 16 a0) 17 v1) 3 v1) 18 v1) 19 v3) 4 v5) 20 v8) 21 v9) 5 v11) 22 v1) 23 v14) 24 v15) 25 v16) 26 v17) 27 v19) 28 v20) 29 v1) 30 v22) 31 v23) 32 v24) 33 v25) 34 v26) 35 v27) 37 v1) 38 v28) 39 v29) 40 v30) 36 v31) 42 v33) 43 v34) 41 v35) 44 v38) 45 v39) 46 v1) 47 v41) 48 v42) 6 v42) 50 v44) 51 v42) 52 v45) 49 v45) 53 v47) 54 v48) 7 v47) 8 v48) 56 v49) 57 v42) 58 v50) 55 v50) 59 v52) 60 v53) 9 v52) 10 v53) 61 v48) 62 v54) 63 v54) 63 (Value.bool false)) 64 v53) 65 v55) 66 v55) 67 v55) 67 (Value.bool false)) 68 v47) 69 v56) 70 v57) 71 v57) 72 v57) 72 (Value.bool false)) 73 v52) 74 v58) 75 v59) 76 v59) h51 (contX pl5 prog J 171 h.length 5 ct5 [1, 1, 1, 1, 1, 1, 1, 1, 1, 0, 1] (codeOf f5) [] (RetQ prog [.tmp 2] h.length K)))))))))))) := top_eq pok5 ct5 (by kernel_rfl)
theorem g5 (hJ : Closed prog main J) {a0 : Value} (hs : heapOk h → W prog J 171 h.length 5 (codeOf f5) (RG.mk (regs [a0]) []) h (RetQ prog [.tmp 2] h.length K)) : Good prog J 5 [a0] h K :=
  good_of_W hJ mixed at5 body5 (by kernel_rfl) (Nat.le_of_ble_eq_true rfl) hs
end
section
variable {main : Bool} {J : JT} {n0 : Nat} {h : List AObj} {K : Value → List AObj → Prop}
def pl12 : Plans := [(13, true, .take 0 (.take 1 (.take 4 (.take 5 (.alt 2 false (.alt 3 false (.last 6 false (.last 7 false (.take 8 (.fin)))) (.last 6 false (.last 3 false (.last 7 false (.take 8 (.fin)))))) (.last 6 false (.last 2 false (.last 3 false (.last 7 false (.take 8 (.fin)))))))))))]
def ct12 : Cuts := .bin (.go) (.bin (.go) (.bin (.go) (.bin (.go) (.bin (.go) (.bin (.go) (.bin (.go) (.bin (.go) (.bin (.bin (.go) (.cut (.go))) (.bin (.bin (.go) (.un (.un (.bin (.go) (.bin (.un (.bin (.go) (.cut (.bin (.go) (.bin (.go) (.bin (.go) (.bin (.go) (.cut (.go))))))))) (.go)))))) (.go))))))))))
theorem pok12 : plansOk prog pl12 (codeOf f12) = true := by kernel_rfl
theorem e12 {a0 : Value} : W prog J 120 h.length 12 (codeOf f12) (RG.mk (regs [a0]) []) h (RetQ prog [.tmp 2] h.length K) =
(Good prog J 20 [a0] h fun v1 h2 =>
Good prog J 21 [v1, (vint 3), (vint 12)] h2 fun v3 h4 =>
aAlloc [(vint 0), (vint 0), (vint 0), (Value.slice none 0 0)] h4 fun v5 h6 =>
aStore 4 v5 v3 h6 fun h7 =>
aOff v5 0 fun v8 =>
aOff v8 1 fun v9 =>
aLoad false 1 v9 h7 fun v10 =>
aOff v5 0 fun v11 =>
aOff v11 0 fun v12 =>
aStore 1 v12 v10 h7 fun h13 =>
aLoad true 4 v5 h13 fun v14 =>
Good prog J 36 [v1, v14, (vint 5)] h13 fun v15 h16 =>
aLoad true 4 v5 h16 fun v17 =>
Good prog J 53 [v17, v15] h16 fun v18 h19 =>
aExt v18 0 fun v20 =>
aExt v18 1 fun v21 =>
aLoad true 4 v5 h19 fun v22 =>
Good prog J 52 [v22, v15] h19 fun v23 h24 =>
aExt v23 0 fun v25 =>
aExt v23 1 fun v26 =>
aLoad true 4 v5 h24 fun v27 =>
Good prog J 38 [v27, v15] h24 fun v28 h29 =>
aExt v28 0 fun v30 =>
aExt v28 1 fun v31 =>
aBin prog .neq 39 v21 (vint 0) fun v32 =>
cnd v32
(Hold (W prog J 120 h.length 12 (subC [1, 1, 1, 1, 1, 1, 1, 1, 0, 1] (codeOf f12)) (RG.p (RG.p (RG.p (RG.p (RG.p (RG.p (RG.p (RG.p (RG.p (RG.p (RG.p (RG.p (RG.p (RG.p (RG.p (RG.p (RG.p (RG.p (RG.p (RG.p (RG.p (RG.p (RG.p (RG.p (RG.p (RG.p (RG.p (RG.p (RG.p (RG.p (RG.p (RG.p (RG.p (RG.p (RG.p (RG.p (RG.p (RG.p (RG.p (RG.p (RG.p (RG.p (RG.p (RG.p (RG.p (RG.p (RG.p (RG.p (RG.p (RG.p (RG.p (RG.p (RG.p (RG.p (RG.p (RG.p (RG.mk (regs [a0]) []) 2 (Value.bool false)) 20 a0) 21 v1) 3 v1) 22 v1) 23 v3) 4 v5) 24 v8) 25 v9) 26 v10) 27 v11) 28 v12) 29 v1) 30 v14) 31 v15) 5 v15) 33 v17) 34 v15) 35 v18) 32 v18) 36 v20) 37 v21) 6 v20) 7 v21) 39 v22) 40 v15) 41 v23) 38 v23) 42 v25) 43 v26) 8 v25) 9 v26) 45 v27) 46 v15) 47 v28) 44 v28) 48 v30) 49 v31) 10 v30) 11 v31) 50 v21) 51 v32) 52 v32) 52 (Value.bool true)) 53 undef) 54 undef) 55 (Value.bool true)) 56 (Value.bool true)) 56 (Value.bool true)) 57 undef) 58 undef) 59 undef) 60 undef) 61 undef) 62 undef) 63 (Value.bool true)) h29 (contX pl12 prog J 120 h.length 12 ct12 [1, 1, 1, 1, 1, 1, 1, 1, 0, 1] (codeOf f12) [] (RetQ prog [.tmp 2] h.length K))))
(aBin prog .neq 39 v26 (vint 0) fun v33 =>
cnd v33
(Hold (W prog J 120 h.length 12 (subC [1, 1, 1, 1, 1, 1, 1, 1, 0, 1] (codeOf f12)) (RG.p (RG.p (RG.p (RG.p (RG.p (RG.p (RG.p (RG.p (RG.p (RG.p (RG.p (RG.p (RG.p (RG.p (RG.p (RG.p (RG.p (RG.p (RG.p (RG.p (RG.p (RG.p (RG.p (RG.p (RG.p (RG.p (RG.p (RG.p (RG.p (RG.p (RG.p (RG.p (RG.p (RG.p (RG.p (RG.p (RG.p (RG.p (RG.p (RG.p (RG.p (RG.p (RG.p (RG.p (RG.p (RG.p (RG.p (RG.p (RG.p (RG.p (RG.p (RG.p (RG.p (RG.p (RG.p (RG.p (RG.mk (regs [a0]) []) 2 (Value.bool false)) 20 a0) 21 v1) 3 v1) 22 v1) 23 v3) 4 v5) 24 v8) 25 v9) 26 v10) 27 v11) 28 v12) 29 v1) 30 v14) 31 v15) 5 v15) 33 v17) 34 v15) 35 v18) 32 v18) 36 v20) 37 v21) 6 v20) 7 v21) 39 v22) 40 v15) 41 v23) 38 v23) 42 v25) 43 v26) 8 v25) 9 v26) 45 v27) 46 v15) 47 v28) 44 v28) 48 v30) 49 v31) 10 v30) 11 v31) 50 v21) 51 v32) 52 v32) 52 (Value.bool false)) 53 v26) 54 v33) 55 v33) 56 v33) 56 (Value.bool true)) 57 undef) 58 undef) 59 undef) 60 undef) 61 undef) 62 undef) 63 (Value.bool true)) h29 (contX pl12 prog J 120 h.length 12 ct12 [1, 1, 1, 1, 1, 1, 1, 1, 0, 1] (codeOf f12) [] (RetQ prog [.tmp 2] h.length K))))
(aBin prog .neq 39 v31 (vint 0) fun v34 =>
cnd v34
(aBin prog .neq 39 v31 (vint 11) fun v35 =>
Hold (W prog J 120 h.length 12 (subC [1, 1, 1, 1, 1, 1, 1, 1, 0, 1] (codeOf f12)) (RG.p (RG.p (RG.p (RG.p (RG.p (RG.p (RG.p (RG.p (RG.p (RG.p (RG.p (RG.p (RG.p (RG.p (RG.p (RG.p (RG.p (RG.p (RG.p (RG.p (RG.p (RG.p (RG.p (RG.p (RG.p (RG.p (RG.p (RG.p (RG.p (RG.p (RG.p (RG.p (RG.p (RG.p (RG.p (RG.p (RG.p (RG.p (RG.p (RG.p (RG.p (RG.p (RG.p (RG.p (RG.p (RG.p (RG.p (RG.p (RG.p (RG.p (RG.p (RG.p (RG.p (RG.p (RG.p (RG.p (RG.p (RG.mk (regs [a0]) []) 2 (Value.bool false)) 20 a0) 21 v1) 3 v1) 22 v1) 23 v3) 4 v5) 24 v8) 25 v9) 26 v10) 27 v11) 28 v12) 29 v1) 30 v14) 31 v15) 5 v15) 33 v17) 34 v15) 35 v18) 32 v18) 36 v20) 37 v21) 6 v20) 7 v21) 39 v22) 40 v15) 41 v23) 38 v23) 42 v25) 43 v26) 8 v25) 9 v26) 45 v27) 46 v15) 47 v28) 44 v28) 48 v30) 49 v31) 10 v30) 11 v31) 50 v21) 51 v32) 52 v32) 52 (Value.bool false)) 53 v26) 54 v33) 55 v33) 56 v33) 56 (Value.bool false)) 57 v31) 58 v34) 59 v34) 59 (Value.bool true)) 60 v31) 61 v35) 62 v35) 63 v35) h29 (contX pl12 prog J 120 h.length 12 ct12 [1, 1, 1, 1, 1, 1, 1, 1, 0, 1] (codeOf f12) [] (RetQ prog [.tmp 2] h.length K))))
(Hold (W prog J 120 h.length 12 (subC [1, 1, 1, 1, 1, 1, 1, 1, 0, 1] (codeOf f12)) (RG.p (RG.p (RG.p (RG.p (RG.p (RG.p (RG.p (RG.p (RG.p (RG.p (RG.p (RG.p (RG.p (RG.p (RG.p (RG.p (RG.p (RG.p (RG.p (RG.p (RG.p (RG.p (RG.p (RG.p (RG.p (RG.p (RG.p (RG.p (RG.p (RG.p (RG.p (RG.p (RG.p (RG.p (RG.p (RG.p (RG.p (RG.p (RG.p (RG.p (RG.p (RG.p (RG.p (RG.p (RG.p (RG.p (RG.p (RG.p (RG.p (RG.p (RG.p (RG.p (RG.p (RG.p (RG.p (RG.p (RG.p (RG.mk (regs [a0]) []) 2 (Value.bool false)) 20 a0) 21 v1) 3 v1) 22 v1) 23 v3) 4 v5) 24 v8) 25 v9) 26 v10) 27 v11) 28 v12) 29 v1) 30 v14) 31 v15) 5 v15) 33 v17) 34 v15) 35 v18) 32 v18) 36 v20) 37 v21) 6 v20) 7 v21) 39 v22) 40 v15) 41 v23) 38 v23) 42 v25) 43 v26) 8 v25) 9 v26) 45 v27) 46 v15) 47 v28) 44 v28) 48 v30) 49 v31) 10 v30) 11 v31) 50 v21) 51 v32) 52 v32) 52 (Value.bool false)) 53 v26) 54 v33) 55 v33) 56 v33) 56 (Value.bool false)) 57 v31) 58 v34) 59 v34) 59 (Value.bool false)) 60 undef) 61 undef) 62 (Value.bool false)) 63 (Value.bool false)) h29 (contX pl12 prog J 120 h.length 12 ct12 [1, 1, 1, 1, 1, 1, 1, 1, 0, 1] (codeOf f12) [] (RetQ prog [.tmp 2] h.length K))))))) := top_eq pok12 ct12 (by kernel_rfl)
end
section
variable {main : Bool} {J : JT} {n0 : Nat} {h : List AObj} {K : Value → List AObj → Prop}
def pl52 : Plans := []
def ct52 : Cuts := .go
theorem pok52 : plansOk prog pl52 (codeOf f52) = true := by kernel_rfl
theorem e52 {a0 a1 : Value} : W prog J 16 h.length 52 (codeOf f52) (RG.mk (regs [a0, a1]) []) h (RetQ prog [.tmp 4, .tmp 5] h.length K) =
(aBox a0 h fun v1 h2 =>
aLoad true 4 v1 h2 fun v3 =>
Good prog J 86 [v3, a1] h2 fun v4 h5 =>
aBin prog .neq 39 v4 (vint 0) fun v6 =>
cnd v6
(retL h.length K [] [(Value.slice none 0 0), v4] h5)
(aLoad true 4 v1 h5 fun v7 =>
Good prog J 94 [v7, a1] h5 fun v8 h9 =>
retL h.length K [] [v8, (vint 0)] h9)) := top_eq pok52 ct52 (by kernel_rfl)
def pl53 : Plans := []
def ct53 : Cuts := .go
theorem pok53 : plansOk prog pl53 (codeOf f53) = true := by kernel_rfl
theorem e53 {a0 a1 : Value} : W prog J 29 h.length 53 (codeOf f53) (RG.mk (regs [a0, a1]) []) h (RetQ prog [.tmp 4, .tmp 5] h.length K) =
(aBox a0 h fun v1 h2 =>
aLoad true 4 v1 h2 fun v3 =>
Good prog J 86 [v3, a1] h2 fun v4 h5 =>
aBin prog .neq 39 v4 (vint 0) fun v6 =>
cnd v6
(retL h.length K [] [(Value.slice none 0 0), v4] h5)
(aOff v1 3 fun v7 =>
aLoad false 1 v7 h5 fun v8 =>
aLenS v8 fun v9 =>
Sem J 29 h.length 53 (subC [1, 1, 1, 0, 1, 0] (codeOf f53)) (RG.p (RG.p (RG.p (RG.p (RG.p (RG.p (RG.p (RG.p (RG.p (RG.p (RG.p (RG.p (RG.p (RG.p (RG.mk (regs [a0, a1]) []) 2 v1) 4 (Value.slice none 0 0)) 5 (vint 0)) 9 v3) 10 a1) 11 v4) 6 v4) 12 v4) 13 v6) 7 (Value.slice none 0 0)) 15 v7) 16 v8) 17 v9) 18 (vint 0)) h5 (contX pl53 prog J 29 h.length 53 ct53 [1, 1, 1, 0, 1, 0] (codeOf f53) [] (RetQ prog [.tmp 4, .tmp 5] h.length K)))) := top_eq pok53 ct53 (by kernel_rfl)
end
end Go.Proofs.Ytindillghipjjaa
namespace Go.Proofs.Ytindillghipjjaa
open Go.Conc Go.Proofs.Try
set_option maxRecDepth 100000
def firstN {α : Type} (f : Nat → Option α) : Nat → Option α
  | 0 => none
  | n + 1 => (firstN f n).or (f n)
theorem firstN_none {α : Type} {f : Nat → Option α} : ∀ {n : Nat}, (∀ i, i < n → f i = none) → firstN f n = none
  | 0, _ => rfl
  | n + 1, h => by
    unfold firstN
    rw [firstN_none fun i hi => h i (by omega), h n (by omega)]
    rfl
theorem firstN_some {α : Type} {f : Nat → Option α} {k : Nat} {r : α} : ∀ {n : Nat}, k < n → (∀ i, i < k → f i = none) → f k = some r → firstN f n = some r
  | 0, h, _, _ => absurd h (Nat.not_lt_zero _)
  | n + 1, h, h0, hr => by
    unfold firstN
    by_cases e : k = n
    · subst e
      rw [firstN_none h0, hr]
      rfl
    · rw [firstN_some (by omega) h0 hr]
      rfl
def Found (n : Nat) (H : List AObj) (v : Value) : Option (List Int) → Prop
  | none => v = .slice none 0 0
  | some r => ∃ o, OwnX H 1 (r.map vint) r.length v (some o) ∧ n ≤ o
theorem Found.val {n : Nat} {H : List AObj} {v : Value} {o : Option (List Int)} (a : Found n H v o) : ∃ b k c, v = .slice b k c ∧ b.isNone = o.isNone := by
  cases o with
  | none => exact ⟨none, 0, 0, a, rfl⟩
  | some r =>
    obtain ⟨o, O, _⟩ := a
    obtain ⟨h1, h2, ⟨_, _, h3⟩ | ⟨i, c, sz, hi, rfl, h5, h6⟩⟩ := O
    · cases h3
    · exact ⟨_, _, _, rfl, rfl⟩
theorem Found.unk {n : Nat} {H : List AObj} {v : Value} {o : Option (List Int)} (a : Found n H v o) : v ≠ unk := by
  obtain ⟨b, k, c, rfl, _⟩ := a.val
  intro e
  cases e
theorem Found.to {n m : Nat} {H H' : List AObj} {v : Value} {o : Option (List Int)} (a : Found n H v o) (hm : m ≤ n) {X : List Nat} (S : SameX X H H') (hX : ∀ x ∈ X, x < n) : Found m H' v o := by
  cases o with
  | none => exact a
  | some r =>
    obtain ⟨o, O, h⟩ := a
    exact ⟨o, ownX_keep O S fun i hi => by cases hi; exact fun hx => absurd (hX _ hx) (by omega), by omega⟩
def leastR (P : Int → Bool) (lo hi : Int) : Option Int := firstN (fun i => bif P (lo + i) then some (lo + (i : Int)) else none) (hi + 1 - lo).toNat
theorem leastR_some {P : Int → Bool} {lo hi n : Int} (h1 : lo ≤ n) (h2 : n ≤ hi) (hp : P n = true) (hn : ∀ m, lo ≤ m → m < n → P m = false) : leastR P lo hi = some n := by
  refine firstN_some (k := (n - lo).toNat) (by omega) (fun i hi => ?_) ?_
  · rw [hn (lo + i) (by omega) (by omega)]
    rfl
  · have e : lo + ((n - lo).toNat : Int) = n := by omega
    rw [e, hp]
    rfl
theorem leastR_none {P : Int → Bool} {lo hi : Int} (hn : ∀ m, lo ≤ m → m ≤ hi → P m = false) : leastR P lo hi = none := by
  refine firstN_none fun i hi => ?_
  rw [hn (lo + i) (by omega) (by omega)]
  rfl
section
variable {main : Bool} {J : JT} {h H : List AObj} {K : Value → List AObj → Prop} {KV : Value → Prop} {HL : List AObj → Prop} {n0 : Nat}
theorem good80 (hJ : Closed prog main J) {P : Int → Bool} {lo hi : Int} {fv : Value} (hb : -1000000 ≤ lo ∧ hi ≤ 1000000)
    (hf : ∀ {H' : List AObj} {n : Int} {Kf : Value → List AObj → Prop}, SameX [] H H' → lo ≤ n → n ≤ hi → (∀ H'', SameX [] H' H'' → Kf (.bool (P n)) H'') → callV prog (Good prog J) fv [vint n] H' Kf)
    (hK : ∀ H', SameX [] H H' → K (.tuple ⟨[vint ((leastR P lo hi).getD 0), .bool (!(leastR P lo hi).isNone)]⟩) H') : Good prog J 80 [vint lo, vint hi, fv] H K := by
  refine g80 hJ fun ok => ?_
  rw [e80]
  refine l80_1 hJ (fun n : Int => (hi + 1 - n).toNat) (fun n F H' => SameX [] H H' ∧ lo ≤ n ∧ (∀ m, lo ≤ m → m < n → P m = false) ∧ F.ds = [] ∧ F.r 1 = vint hi ∧ F.r 2 = fv ∧ F.r 8 = vint n) ?_ (s := lo)
    (.inl ⟨SameX.refl, Int.le_refl _, fun m h1 h2 => absurd h2 (by omega), rfl, rfl, rfl, rfl⟩)
  rintro n F H' ⟨S, hn, hm, ds, r1, r2, r8⟩ okc hnc
  rw [s80_1, r1, r2, r8, ds]
  refine leqI (cndI (fun hle => ?_) fun hgt => ?_)
  · refine hf S hn hle fun H2 S2 => cnd_bool.2 ⟨fun hp => ?_, fun hp => ?_⟩
    · have e := leastR_some hn hle hp hm
      have := hK H2 (S.trans S2)
      rw [e] at this
      exact retL_same (by simp [unk]) this
    · refine addI (by omega) ⟨n + 1, by dsimp only; omega, .inl ⟨S.trans S2, by omega, fun m h1 h2 => ?_, ds, r1, r2, rfl⟩⟩
      by_cases e : m = n
      · rw [e, hp]
      · exact hm m h1 (by omega)
  · have e := leastR_none (P := P) (lo := lo) (hi := hi) fun m h1 h2 => hm m h1 (by omega)
    have := hK H' S
    rw [e] at this
    exact retL_same (by simp [unk]) this
end
def lvF (w : Wel) : Nat → Int
  | 0 => w.now
  | k + 1 => min w.holds (lvF w k + w.fill)
def lvS (w : Wel) (m : Int) (fr : Nat) : Nat → Int
  | 0 => lvF w fr
  | k + 1 => min w.holds (lvS w m fr k - m + w.fill)
def watB (w : Wel) (m : Int) (fr dy : Nat) : Bool := (List.range dy).all fun k => decide (m ≤ lvS w m fr k)
def bearE (w : Wel) (p : Pas) (s : SkyR) (fr dy : Int) : Int := if welE w ≠ 0 then welE w else headE p s fr dy
def bearN (w : Wel) (p : Pas) (s : SkyR) (fr dy : Int) : Int := if bearE w p s fr dy = 0 then min (headN p s fr dy) (topH (fun m => watB w m fr.toNat dy.toNat) 40) else 0
theorem welE_zero {w : Wel} (h : welE w = 0) : (1 ≤ w.holds ∧ w.holds ≤ 40) ∧ (0 ≤ w.now ∧ w.now ≤ w.holds) ∧ (0 ≤ w.fill ∧ w.fill ≤ 20) := by
  unfold welE at h
  split at h
  · assumption
  · cases h
section
variable {w : Wel} {m : Int} {fr dy : Nat}
theorem lvF_bd (h : welE w = 0) : ∀ k, 0 ≤ lvF w k ∧ lvF w k ≤ w.holds
  | 0 => (welE_zero h).2.1
  | k + 1 => by
    have := lvF_bd h k
    obtain ⟨a, b, c⟩ := welE_zero h
    unfold lvF
    omega
theorem lvS_bd (h : welE w = 0) (hm : 0 ≤ m ∧ m ≤ 40) : ∀ k : Nat, -400 * (k : Int) ≤ lvS w m fr k ∧ lvS w m fr k ≤ w.holds
  | 0 => by
    have := lvF_bd h fr
    unfold lvS
    omega
  | k + 1 => by
    have := lvS_bd h hm k
    obtain ⟨a, b, c⟩ := welE_zero h
    unfold lvS
    omega
theorem lvS_less (h : welE w = 0) {m' : Int} (hm : m' ≤ m) : ∀ k : Nat, lvS w m fr k ≤ lvS w m' fr k
  | 0 => Int.le_refl _
  | k + 1 => by
    have := lvS_less h hm k
    unfold lvS
    omega
theorem watB_down (h : welE w = 0) {m' : Int} (hm : m' ≤ m) (hw : watB w m fr dy = true) : watB w m' fr dy = true := by
  unfold watB at *
  rw [List.all_eq_true] at *
  intro k hk
  have h1 := of_decide_eq_true (hw k hk)
  have h2 := lvS_less (fr := fr) h hm k
  exact decide_eq_true (by omega)
theorem watB_zero (h : welE w = 0) : watB w 0 fr dy = true := by
  unfold watB
  rw [List.all_eq_true]
  intro k hk
  clear hk
  refine decide_eq_true ?_
  obtain ⟨a, b, c⟩ := welE_zero h
  induction k with
  | zero => exact (lvF_bd h fr).1
  | succ k ih =>
    unfold lvS
    omega
theorem watB_yes (h : ∀ k, k < dy → m ≤ lvS w m fr k) : watB w m fr dy = true := by
  unfold watB
  rw [List.all_eq_true]
  exact fun k hk => decide_eq_true (h k (List.mem_range.1 hk))
theorem watB_no {k : Nat} (hk : k < dy) (h : ¬ m ≤ lvS w m fr k) : watB w m fr dy = false := by
  unfold watB
  rw [List.all_eq_false]
  exact ⟨k, List.mem_range.2 hk, by rw [decide_eq_false h]; decide⟩
theorem topH_bd {q : Int → Bool} : ∀ {N : Nat}, 0 ≤ topH q N ∧ topH q N ≤ N
  | 0 => ⟨Int.le_refl _, Int.le_refl _⟩
  | N + 1 => by
    have := topH_bd (q := q) (N := N)
    unfold topH
    split <;> omega
theorem topH_is {q : Int → Bool} (h0 : q 0 = true) : ∀ {N : Nat}, q (topH q N) = true ∧ ∀ k : Nat, topH q N < k → k ≤ N → q k = false
  | 0 => ⟨h0, fun k h1 h2 => by
      have h1 : (0 : Int) < k := h1
      omega⟩
  | N + 1 => by
    unfold topH
    by_cases h : q ((N + 1 : Nat) : Int) = true
    · rw [if_pos h]
      exact ⟨h, fun k h1 h2 => by omega⟩
    · rw [if_neg h]
      obtain ⟨a, b⟩ := topH_is (q := q) h0 (N := N)
      refine ⟨a, fun k h1 h2 => ?_⟩
      by_cases e : k = N + 1
      · rw [e]
        simpa using h
      · exact b k h1 (by omega)
theorem topH_min {q : Int → Bool} (h0 : q 0 = true) (hd : ∀ a b : Int, a ≤ b → q b = true → q a = true) {N M : Nat} (h : N ≤ M) : topH q N = min (N : Int) (topH q M) := by
  obtain ⟨a, b⟩ := topH_is (q := q) h0 (N := M)
  have bd := topH_bd (q := q) (N := M)
  obtain ⟨t, ht⟩ := Int.eq_ofNat_of_zero_le bd.1
  rw [ht] at a b ⊢
  by_cases e : t ≤ N
  · rw [topH_yes (m := t) a e fun k h1 h2 => b k (by omega) (by omega)]
    omega
  · rw [topH_yes (m := N) (hd _ _ (by omega) a) (Nat.le_refl _) fun k h1 h2 => by omega]
    omega
theorem least_top {q : Int → Bool} (h0 : q 0 = true) : leastR (fun n => q (40 - n)) 0 40 = some (40 - topH q 40) := by
  obtain ⟨a, b⟩ := topH_is (q := q) h0 (N := 40)
  have bd := topH_bd (q := q) (N := 40)
  refine leastR_some (by omega) (by omega) (by rw [show (40 : Int) - (40 - topH q 40) = topH q 40 by omega]; exact a) fun j h1 h2 => ?_
  obtain ⟨t, ht⟩ := Int.eq_ofNat_of_zero_le (by omega : (0 : Int) ≤ 40 - j)
  rw [ht]
  exact b t (by omega) (by omega)
end
section
variable {main : Bool} {J : JT} {h H : List AObj} {K : Value → List AObj → Prop} {KV : Value → Prop} {HL : List AObj → Prop} {n0 : Nat}
theorem good81 (hJ : Closed prog main J) {w : Wel} {n : Int} {fr dy pb pd : Nat} (hw : welE w = 0) (hn : 0 ≤ n ∧ n ≤ 40) (hd : dy ≤ 100) (cb : H[pb]? = some (.cells ({ w with now := lvF w fr } : Wel).cells true 0)) (cd : H[pd]? = some (.cells [vint (dy : Nat)] true 0))
    (hK : ∀ H', SameX [] H H' → K (.bool (watB w (40 - n) fr dy)) H') : Good prog J 81 [vint n, ptr pb 0, ptr pd 0] H K := by
  refine g81 hJ fun ok => ?_
  rw [e81]
  obtain ⟨w1, w2, w3⟩ := welE_zero hw
  refine load_part (c := ({ w with now := lvF w fr } : Wel).cells) cb (by simp [Wel.cells]) rfl rfl ?_
  refine qAl fun H1 p5 e1 S1 c1 l1 => qStA (c := ({ w with now := lvS w (40 - n) fr 0 } : Wel).cells) c1 rfl rfl rfl fun H2 S2 c2 l2 => ?_
  have T2 : SameX [] H H2 := S1.thru S2 (by simp; omega)
  refine ldI (v := vint (dy : Nat)) (T2.get cd (by simp)) rfl rfl ?_
  refine l81_1 hJ (fun k : Nat => dy - k) (fun k F H' => k ≤ dy ∧ SameX [] H H' ∧ H'[p5]? = some (.cells ({ w with now := lvS w (40 - n) fr k } : Wel).cells true 0) ∧ (∀ j, j < k → 40 - n ≤ lvS w (40 - n) fr j) ∧ F.ds = [] ∧ F.r 0 = vint n ∧ F.r 5 = ptr p5 0 ∧ F.r 8 = vint (dy : Nat) ∧ F.r 9 = vint (k : Nat)) ?_ (s := 0)
    (.inl ⟨by omega, T2, c2, fun j hj => absurd hj (Nat.not_lt_zero _), rfl, rfl, rfl, rfl, rfl⟩)
  rintro k F H' ⟨hk, S, cx, hno, ds, r0, r5, r8, r9⟩ okc hnc
  rw [s81_1, r0, r5, r8, r9, ds]
  refine lssI (cndI (fun hlt => ?_) fun hge => ?_)
  rotate_left
  · have : k = dy := by omega
    subst this
    have := hK H' S
    rw [watB_yes hno] at this
    exact retL_same (by simp [unk]) this
  have hkd : k < dy := by omega
  have hb := lvS_bd (fr := fr) (m := 40 - n) hw (by omega) k
  have hsm : ({ w with now := lvS w (40 - n) fr k } : Wel).sm := ⟨by show -1000000 ≤ lvS w (40 - n) fr k ∧ lvS w (40 - n) fr k ≤ 1000000; omega, by show -1000000 ≤ w.holds ∧ w.holds ≤ 1000000; omega, by show -1000000 ≤ w.fill ∧ w.fill ≤ 1000000; omega⟩
  refine load_part (c := ({ w with now := lvS w (40 - n) fr k } : Wel).cells) cx (by simp [Wel.cells]) rfl rfl (subI (by omega) ?_)
  refine good82 hJ (w := { w with now := lvS w (40 - n) fr k }) hsm (by omega) (ext0 (ext1 ?_))
  refine qStA (c := (({ w with now := lvS w (40 - n) fr k } : Wel).drunk (40 - n)).cells) cx rfl rfl rfl fun H3 S3 c3 l3 => ?_
  show cnd (.bool (decide (lvS w (40 - n) fr k < 40 - n))) _ _
  refine cndI (fun hdry => ?_) fun hwet => ?_
  · have := hK H3 (S.thru S3 (by simp; omega))
    rw [watB_no hkd (by omega)] at this
    exact retL_same (by simp [unk]) this
  · have e1 : (({ w with now := lvS w (40 - n) fr k } : Wel).drunk (40 - n)).filled = { w with now := lvS w (40 - n) fr (k + 1) } := by
      unfold Wel.drunk Wel.filled
      simp only [Wel.mk.injEq, and_true]
      show min w.holds (lvS w (40 - n) fr k - min (lvS w (40 - n) fr k) (40 - n) + w.fill) = min w.holds (lvS w (40 - n) fr k - (40 - n) + w.fill)
      omega
    refine load_part (c := (({ w with now := lvS w (40 - n) fr k } : Wel).drunk (40 - n)).cells) c3 (by simp [Wel.cells]) rfl rfl ?_
    refine good79 hJ (w := ({ w with now := lvS w (40 - n) fr k } : Wel).drunk (40 - n)) ⟨by show -1000000 ≤ lvS w (40 - n) fr k - min (lvS w (40 - n) fr k) (40 - n) ∧ lvS w (40 - n) fr k - min (lvS w (40 - n) fr k) (40 - n) ≤ 1000000; omega, hsm.2⟩ ?_
    rw [e1]
    refine qStA (c := ({ w with now := lvS w (40 - n) fr (k + 1) } : Wel).cells) c3 rfl rfl rfl fun H4 S4 c4 l4 => addI (by omega) ⟨k + 1, by dsimp only; omega, .inl ⟨by omega, (S.thru S3 (by simp; omega)).thru S4 (by simp; omega), c4, fun j hj => ?_, ds, r0, r5, r8, by show vint _ = vint _; congr 1⟩⟩
    by_cases e : j = k
    · rw [e]
      omega
    · exact hno j (by omega)
theorem headE_zero {p : Pas} {s : SkyR} {fr dy : Int} (h : headE p s fr dy = 0) : (0 ≤ fr ∧ fr ≤ 7) ∧ (1 ≤ dy ∧ dy ≤ 8) := by
  unfold headE at h
  split at h
  · contradiction
  · rename_i h1
    have g : skyOk s := by
      have h1 := Classical.not_not.1 h1
      unfold fst2 at h1
      split at h1
      · contradiction
      · unfold skyE at h1
        split at h1
        · assumption
        · cases h1
    split at h
    · cases h
    · rename_i h2
      split at h
      · cases h
      · rename_i h3
        obtain ⟨g1, g2, g3⟩ := g
        have h2 := Classical.not_not.1 h2
        have h3 := Classical.not_not.1 h3
        omega
theorem good34 (hJ : Closed prog main J) {w : Wel} {p : Pas} {s : SkyR} {fr dy : Int} (hK : ∀ H', SameX [] H H' → K (.tuple ⟨[vint (bearN w p s fr dy), vint (bearE w p s fr dy)]⟩) H') : Good prog J 34 [w.val, .agg ⟨p.cells⟩, .agg ⟨s.cells⟩, vint fr, vint dy] H K := by
  refine g34 hJ fun ok => ?_
  rw [e34]
  refine qBox (l := w.cells) rfl fun H1 p5 e1 S1 c5 l1 => qBox (l := p.cells) rfl fun H2 p6 e2 S2 c6 l2 => qBox (l := s.cells) rfl fun H3 p7 e3 S3 c7 l3 => qBox1 rfl rfl fun H4 p9 e4 S4 c9 l4 => ?_
  have d5 := S4.get (S3.get (S2.get c5 (by simp)) (by simp)) (by simp)
  have d6 := S4.get (S3.get c6 (by simp)) (by simp)
  have d7 := S4.get c7 (by simp)
  have T4 := ((S1.trans S2).trans S3).trans S4
  have fin : ∀ {e : Int} {H' : List AObj}, bearE w p s fr dy = e → e ≠ 0 → SameX [] H H' → retL H.length K [] [vint 0, vint e] H' := fun he h0 S => by
    have := hK _ S
    unfold bearN at this
    rw [if_neg (by omega), he] at this
    exact retL_same (nu2 (by simp [unk]) (by simp [unk])) this
  refine load_part (c := w.cells) d5 (by simp [Wel.cells]) rfl rfl (good77 hJ (neqI (cndI (fun h1 => fin ?_ h1 T4) fun h1 => ?_)))
  · unfold bearE; rw [if_pos h1]
  have hw : welE w = 0 := by omega
  obtain ⟨w1, w2, w3⟩ := welE_zero hw
  refine load_part (c := p.cells) d6 (by simp [Pas.cells]) rfl rfl (load_part (c := s.cells) d7 (by simp [SkyR.cells]) rfl rfl (ldI (v := vint dy) c9 rfl rfl ?_))
  refine good78 hJ fun H5 S5 => ext0 (ext1 (neqI (cndI (fun h2 => fin ?_ h2 (T4.trans S5)) fun h2 => ?_)))
  · unfold bearE; rw [if_neg h1]
  have hh : headE p s fr dy = 0 := by omega
  have h0 : bearE w p s fr dy = 0 := by unfold bearE; rw [if_neg h1, hh]
  obtain ⟨b1, b2⟩ := headE_zero hh
  obtain ⟨a, rfl⟩ := Int.eq_ofNat_of_zero_le b1.1
  obtain ⟨b, rfl⟩ := Int.eq_ofNat_of_zero_le (by omega : (0 : Int) ≤ dy)
  have T5 := T4.trans S5
  refine load_part (c := w.cells) (S5.get d5 (by simp)) (by simp [Wel.cells]) rfl rfl (fillO (l := w.cells) rfl rfl rfl (by simp) (fillI ?_))
  refine qAl fun H6 p15 e6 S6 c15 l6 => qStA (c := ({ w with now := lvF w 0 } : Wel).cells) c15 rfl rfl rfl fun H7 S7 c15' l7 => ?_
  have S57 : SameX [] H5 H7 := S6.thru S7 (by simp; omega)
  have x9 := S57.get (S5.get c9 (by simp)) (by simp)
  have T7 := T5.trans S57
  refine l34_1 hJ (fun k : Nat => a - k) (fun k F H' => k ≤ a ∧ SameX [p15] H7 H' ∧ H'[p15]? = some (.cells ({ w with now := lvF w k } : Wel).cells true 0) ∧ F.ds = [] ∧ F.r 9 = ptr p9 0 ∧ F.r 13 = vint (headN p s (a : Nat) (b : Nat)) ∧ F.r 15 = ptr p15 0 ∧ F.r 36 = vint (a : Nat) ∧ F.r 37 = vint (k : Nat)) ?_ (s := 0)
    (.inl ⟨by omega, SameX.refl, c15', rfl, rfl, rfl, rfl, rfl, rfl⟩)
  rintro k F H' ⟨hk, S, cx, ds, r9, r13, r15, r36, r37⟩ okc hnc
  rw [s34_1, r9, r13, r15, r36, r37, ds]
  have hlk := lvF_bd hw k
  refine lssI (cndI (fun hlt => ?_) fun hge => ?_)
  · refine load_part (c := ({ w with now := lvF w k } : Wel).cells) cx (by simp [Wel.cells]) rfl rfl ?_
    refine good79 hJ (w := { w with now := lvF w k }) ⟨by show -1000000 ≤ lvF w k ∧ lvF w k ≤ 1000000; omega, by show -1000000 ≤ w.holds ∧ w.holds ≤ 1000000; omega, by show -1000000 ≤ w.fill ∧ w.fill ≤ 1000000; omega⟩ ?_
    refine qStA (c := ({ w with now := lvF w (k + 1) } : Wel).cells) cx rfl rfl rfl fun H8 S8 c8 l8 => addI (by omega) ⟨k + 1, by dsimp only; omega, .inl ⟨by omega, S.trans S8, c8, ds, r9, r13, r15, r36, by show vint _ = vint _; congr 1⟩⟩
  have hka : k = a := by omega
  subst hka
  have b9 := lt_of_get x9
  have lp9 := lt_of_get c9
  have hS5 := S5.1
  have n95 : p9 ≠ p15 := by omega
  have y9 := S.get x9 (by simpa using n95)
  refine ⟨rfl, ?_⟩
  have hz := watB_zero (fr := k) (dy := b) hw
  refine good80 hJ (P := fun n => watB w (40 - n) k b) (by decide) (fun {H8} {n} {Kf} S8 h1 h2 hk8 => callCz (by kernel_rfl) ?_) fun H8 S8 => ext0 (ext1 ?_)
  · exact good81 hJ hw ⟨h1, h2⟩ (by omega) (S8.get cx (by simp)) (S8.get y9 (by simp)) hk8
  · rw [least_top (q := fun m => watB w m k b) hz]
    have bd := topH_bd (q := fun m => watB w m k b) (N := 40)
    refine subI (by show -9223372036854775808 ≤ 40 - (40 - topH (fun m => watB w m k b) 40) ∧ 40 - (40 - topH (fun m => watB w m k b) 40) < 9223372036854775808; omega) (minI ?_)
    have := hK H8 ((T7.thru S (by simp; have := T5.1; omega)).trans S8)
    unfold bearN at this
    rw [if_pos h0, h0] at this
    refine retL_same (nu2 (by simp [unk]) (by simp [unk])) ?_
    rw [Int.toNat_natCast, Int.toNat_natCast] at this
    have e2 : (40 : Int) - (some (40 - topH (fun m => watB w m k b) 40)).getD 0 = topH (fun m => watB w m k b) 40 := by
      show 40 - (40 - topH (fun m => watB w m k b) 40) = _
      omega
    rw [e2]
    exact this
theorem good85 (hJ : Closed prog main J) {w : Wel} {m : Int} {fr dy : Nat} (hw : welE w = 0) (hm : 0 ≤ m ∧ m ≤ 40) (hd : fr + dy ≤ 100) (hK : ∀ H', SameX [] H H' → K (.bool (watB w m fr dy)) H') : Good prog J 85 [.agg ⟨w.cells⟩, vint m, vint (fr : Nat), vint (dy : Nat)] H K := by
  refine g85 hJ fun ok => ?_
  rw [e85]
  obtain ⟨w1, w2, w3⟩ := welE_zero hw
  refine qBox (l := w.cells) rfl fun H1 p4 e1 S1 c1 l1 => offI (ldI (v := vint w.now) c1 rfl rfl ?_)
  -- the level at the beginning of a day
  let lv : Nat → Int := fun d => if d ≤ fr then lvF w d else lvS w m fr (d - fr)
  refine l85_1 hJ (fun d : Nat => fr + dy - d) (fun d F H' => d ≤ fr + dy ∧ SameX [] H1 H' ∧ (∀ k, k + fr < d → m ≤ lvS w m fr k) ∧ F.ds = [] ∧ F.r 1 = vint m ∧ F.r 2 = vint (fr : Nat) ∧ F.r 3 = vint (dy : Nat) ∧ F.r 4 = ptr p4 0 ∧ F.r 9 = vint (lv d) ∧ F.r 10 = vint (d : Nat)) ?_ (s := 0)
    (.inl ⟨by omega, SameX.refl, fun k hk => absurd hk (Nat.not_lt_zero _), rfl, rfl, rfl, rfl, rfl, by show vint w.now = vint (if 0 ≤ fr then lvF w 0 else _); rw [if_pos (Nat.zero_le _)]; rfl, rfl⟩)
  rintro d F H' ⟨hdd, S, hno, ds, r1, r2, r3, r4, r9, r10⟩ okc hnc
  rw [s85_1, r1, r2, r3, r4, r9, r10, ds]
  have cp := S.get c1 (by simp)
  refine addI (by omega) (lssI (cndI (fun hlt => ?_) fun hge => ?_))
  rotate_left
  · have : d = fr + dy := by omega
    subst this
    have := hK H' (S1.trans S)
    rw [watB_yes fun k hk => hno k (by omega)] at this
    exact retL_same (by simp [unk]) this
  refine geqI (cndI (fun hge => ?_) fun hlt2 => ?_)
  · obtain ⟨k, rfl⟩ : ∃ k, d = fr + k := ⟨d - fr, by omega⟩
    have hb := lvS_bd (fr := fr) hw hm k
    have el : lv (fr + k) = lvS w m fr k := by
      show (if fr + k ≤ fr then lvF w (fr + k) else lvS w m fr (fr + k - fr)) = _
      by_cases e : k = 0
      · subst e
        rw [if_pos (by omega)]
        rfl
      · rw [if_neg (by omega), Nat.add_sub_cancel_left]
    rw [el]
    refine lssI (cndI (fun hdry => ?_) fun hwet => ?_)
    · have := hK H' (S1.trans S)
      rw [watB_no (k := k) (by omega) (by omega)] at this
      exact retL_same (by simp [unk]) this
    · refine subI (by omega) (offI (ldI (v := vint w.holds) cp rfl rfl (offI (ldI (v := vint w.fill) cp rfl rfl (addI (by omega) (minI (addI (by omega) ⟨fr + k + 1, by dsimp only; omega, .inl ⟨by omega, S, fun j hj => ?_, ds, r1, r2, r3, r4, ?_, by show vint _ = vint _; congr 1⟩⟩)))))))
      · by_cases e : j = k
        · rw [e]
          omega
        · exact hno j (by omega)
      · show vint _ = vint (if fr + k + 1 ≤ fr then _ else lvS w m fr (fr + k + 1 - fr))
        rw [if_neg (by omega), show fr + k + 1 - fr = k + 1 by omega]
        rfl
  · have hdf : d < fr := by omega
    have hb := lvF_bd hw d
    have el : lv d = lvF w d := by
      show (if d ≤ fr then lvF w d else _) = _
      rw [if_pos (by omega)]
    rw [el]
    refine offI (ldI (v := vint w.holds) cp rfl rfl (offI (ldI (v := vint w.fill) cp rfl rfl (addI (by omega) (minI (addI (by omega) ⟨d + 1, by dsimp only; omega, .inl ⟨by omega, S, fun j hj => by omega, ds, r1, r2, r3, r4, ?_, by show vint _ = vint _; congr 1⟩⟩))))))
    show vint _ = vint (if d + 1 ≤ fr then lvF w (d + 1) else _)
    rw [if_pos (by omega)]
    rfl
theorem good35 (hJ : Closed prog main J) {w : Wel} {p : Pas} {s : SkyR} {fr dy : Int} (hK : ∀ H', SameX [] H H' → K (.tuple ⟨[vint (bearN w p s fr dy), vint (bearE w p s fr dy)]⟩) H') : Good prog J 35 [.agg ⟨w.cells⟩, .agg ⟨p.cells⟩, .agg ⟨s.cells⟩, vint fr, vint dy] H K := by
  refine g35 hJ fun ok => ?_
  rw [e35]
  refine qBox (l := w.cells) rfl fun H1 p5 e1 S1 c5 l1 => qBox (l := p.cells) rfl fun H2 p6 e2 S2 c6 l2 => qBox (l := s.cells) rfl fun H3 p7 e3 S3 c7 l3 => ?_
  have d5 := S3.get (S2.get c5 (by simp)) (by simp)
  have d6 := S3.get c6 (by simp)
  have T3 := (S1.trans S2).trans S3
  have fin : ∀ {e : Int} {H' : List AObj}, bearE w p s fr dy = e → e ≠ 0 → SameX [] H H' → retL H.length K [] [vint 0, vint e] H' := fun he h0 S => by
    have := hK _ S
    unfold bearN at this
    rw [if_neg (by omega), he] at this
    exact retL_same (nu2 (by simp [unk]) (by simp [unk])) this
  refine load_part (c := w.cells) d5 (by simp [Wel.cells]) rfl rfl (good83 hJ fun Ha Sa => neqI (cndI (fun h1 => fin ?_ h1 (T3.trans Sa)) fun h1 => ?_))
  · unfold bearE; rw [if_pos h1]
  have hw : welE w = 0 := by omega
  have Ta := T3.trans Sa
  refine load_part (c := p.cells) (Sa.get d6 (by simp)) (by simp [Pas.cells]) rfl rfl (load_part (c := s.cells) (Sa.get c7 (by simp)) (by simp [SkyR.cells]) rfl rfl ?_)
  refine good84 hJ fun H5 S5 => ext0 (ext1 (neqI (cndI (fun h2 => fin ?_ h2 (Ta.trans S5)) fun h2 => ?_)))
  · unfold bearE; rw [if_neg h1]
  have hh : headE p s fr dy = 0 := by omega
  have h0 : bearE w p s fr dy = 0 := by unfold bearE; rw [if_neg h1, hh]
  obtain ⟨b1, b2⟩ := headE_zero hh
  obtain ⟨a, rfl⟩ := Int.eq_ofNat_of_zero_le b1.1
  obtain ⟨b, rfl⟩ := Int.eq_ofNat_of_zero_le (by omega : (0 : Int) ≤ dy)
  have T5 := Ta.trans S5
  have x5 := S5.get (Sa.get d5 (by simp)) (by simp)
  have hbd : 0 ≤ headN p s (a : Nat) (b : Nat) ∧ headN p s (a : Nat) (b : Nat) ≤ 40 := by
    unfold headN
    rw [if_pos hh]
    exact topH_bd
  obtain ⟨fd, hfd⟩ := Int.eq_ofNat_of_zero_le hbd.1
  rw [hfd]
  let q : Int → Bool := fun m => watB w m a b
  refine l35_1 hJ (fun m : Nat => fd + 1 - m) (fun m F H' => m ≤ fd + 1 ∧ SameX [] H5 H' ∧ F.ds = [] ∧ F.r 3 = vint (a : Nat) ∧ F.r 4 = vint (b : Nat) ∧ F.r 5 = ptr p5 0 ∧ F.r 13 = vint (fd : Nat) ∧ F.r 15 = vint (topH q (m - 1)) ∧ F.r 16 = vint (m : Nat)) ?_ (s := 0)
    (.inl ⟨by omega, SameX.refl, rfl, rfl, rfl, rfl, rfl, rfl, rfl⟩)
  rintro m F H' ⟨hm, S, ds, r3, r4, r5, r13, r15, r16⟩ okc hnc
  rw [s35_1, r3, r4, r5, r13, r15, r16, ds]
  refine leqI (cndI (fun hle => ?_) fun hgt => ?_)
  · refine load_part (c := w.cells) (S.get x5 (by simp)) (by simp [Wel.cells]) rfl rfl ?_
    refine good85 hJ hw (by omega) (by omega) fun H6 S6 => ?_
    have step : topH q (m + 1 - 1) = if q (m : Nat) = true then (m : Int) else topH q (m - 1) := by
      rcases Nat.eq_zero_or_pos m with h | h
      · subst h
        show topH q 0 = _
        split <;> rfl
      · obtain ⟨k, rfl⟩ : ∃ k, m = k + 1 := ⟨m - 1, by omega⟩
        rfl
    refine cndB (fun hy => ?_) fun hno => ?_
    · refine addI (by omega) ⟨m + 1, by dsimp only; omega, .inl ⟨by omega, S.trans S6, ds, r3, r4, r5, r13, ?_, by show vint _ = vint _; congr 1⟩⟩
      rw [step, if_pos (show q (m : Nat) = true from hy)]
      rfl
    · refine addI (by omega) ⟨m + 1, by dsimp only; omega, .inl ⟨by omega, S.trans S6, ds, r3, r4, r5, r13, ?_, by show vint _ = vint _; congr 1⟩⟩
      rw [step, if_neg (show ¬ q (m : Nat) = true by rw [show q (m : Nat) = _ from hno]; decide)]
      exact r15
  · have : m = fd + 1 := by omega
    subst this
    have := hK H' (T5.trans S)
    unfold bearN at this
    rw [if_pos h0, h0, hfd, Int.toNat_natCast, Int.toNat_natCast] at this
    refine retL_same (nu2 (by simp [unk]) (by simp [unk])) ?_
    have e := topH_min (q := q) (watB_zero hw) (fun x y hxy hy => watB_down hw hxy hy) (N := fd) (M := 40) (by omega)
    show K (pack [vint (topH q (fd + 1 - 1)), vint 0]) H'
    rw [Nat.add_sub_cancel, e]
    exact this
end
end Go.Proofs.Ytindillghipjjaa
namespace Go.Proofs.Ytindillghipjjaa
open Go.Conc
section
variable {P : Program} {W0 : World} {Post : Value → World → Prop} {ρ : Env} {h : List AObj} {FC : Frm} {w : World} {ft : Foot} {f : RG} {a : Act} {b : FB} {K : Value → List AObj → Prop} {n0 : Nat}
theorem leave_top {fn : Func} (hk : b.kind = .normal) (hf : P.funcs[b.fn]? = some fn) (hin : P.inits.idxOf? b.fn = none)
    (hc : ∀ v h' ρ' w' ft' cv, K v h' → HRel ρ' h' FC w' ft' → Env.upto n0 ρ ρ' → n0 ≤ h'.length → VRel h'.length ρ' v cv → Base W0 w' → Post cv w') :
    ∀ (ds : List Nat) (h : List AObj) (w : World) (ft : Foot) (a : Act) (fr : Frame), fr.fn = b.fn → fr.kind = .normal → fr.mode = .returning → fr.tmps = a.tmps → fr.defers = ds.map (fun d => { target := .collected (ρ.blk d), args := #[] }) → RegRel h.length ρ f.r a.tmps → HRel ρ h FC w ft → n0 ≤ h.length →
      takeW ds h (fun h => resW P fn.results.toList f.r h fun vs => K (pack vs) h ∨ ∃ σ h' v, GC n0 σ h h' ∧ pack vs = sub σ v ∧ VOk h'.length v ∧ K v h') → J1 P W0 Post (G fr []) w ft
  | [], h, w, ft, a, fr, e1, e2, e3, e4, e5, hr, H, hn, hq => by
    obtain ⟨fn', tmps, todo, defers, mode, kind, ro⟩ := fr
    simp only at e1 e2 e3 e4 e5
    subst e1 e2 e3 e4 e5
    refine J1.both rfl fun w₁ h₁ hbase => .inr ?_
    have H₁ := H.rely h₁
    have hrun : RunsTo P (EvOk ft) (results fn a.tmps) w₁ fun cv w' => w' = w₁ ∧ ∃ vs, cv = ren ρ (pack vs) ∧ (∀ v ∈ vs, VOk h.length v) ∧ (K (pack vs) h ∨ ∃ σ h' v, GC n0 σ h h' ∧ pack vs = sub σ v ∧ VOk h'.length v ∧ K v h') := by
      unfold results
      have : (fn.results.mapM (resF a.tmps)) = List.toArray <$> fn.results.toList.mapM (resF a.tmps) := by
        rw [Array.mapM_eq_mapM_toList]
      show RunsTo P (EvOk ft) (do
        let vs ← fn.results.mapM (resF a.tmps)
        pure (if h : vs.size = 1 then vs[0] else .tuple vs)) w₁ _
      rw [this]
      refine RunsTo.bind (RunsTo.map (res_run (n := 0) H₁ hr fn.results.toList hq fun vs hvs hok => RunsTo.pure ⟨rfl, vs, ?_, hok, hvs⟩))
      exact pack_ren vs
    obtain ⟨cv, w', es, hr', he, rfl, vs, rfl, hvok, hvs⟩ := hrun #[] (by simp)
    have hes : ∀ e ∈ seen P b.fn es, EvOk ft e := fun e hm => he e (mem_seen hm)
    refine ⟨ren ρ (pack vs), seen P b.fn es, ?_, hes, ?_⟩
    · simp only [G, stepG, unwind, List.map_nil, hf, hr']
      simp [doReturn, GStep.after, hin]
    · rcases hvs with hK | ⟨σ, h', v, g, hp, hok, hK⟩
      · exact hc _ h _ w' ft _ hK H₁ (Env.upto_refl _ _) hn (.inr ⟨pack_ok hvok, rfl⟩) hbase
      · rw [hp, ren_sub]
        exact hc v h' _ w' ft _ hK (g.rel H₁) g.upto g.le (.inr ⟨hok, rfl⟩) hbase
  | d :: ds, h, w, ft, a, fr, e1, e2, e3, e4, e5, hr, H, hn, hq => by
    obtain ⟨fn', tmps, todo, defers, mode, kind, ro⟩ := fr
    simp only at e1 e2 e3 e4 e5
    subst e1 e2 e3 e4 e5
    obtain ⟨hd, hq⟩ := hq
    refine (J1.closed P W0 Post).step rfl fun w₁ h₁ => ?_
    have H₁ := H.rely h₁
    obtain ⟨cv, w', es, hr', he, rfl, H', hst, hsz⟩ := take_run (P := P) H₁ hd (Q := fun l w' => l = [] ∧ HRel ρ (h.set d .dead) FC w' ft ∧ Stays ft w₁ w' ∧ w'.heap.size = w₁.heap.size) (fun w' a1 a2 a3 => ⟨rfl, a1, a2, a3⟩) #[] (by simp)
    have hes : ∀ e ∈ seen P b.fn es, EvOk ft e := fun e hm => he e (mem_seen hm)
    refine ⟨G { fn := b.fn, tmps := a.tmps, todo := todo, defers := ds.map (fun d => { target := .collected (ρ.blk d), args := #[] }), mode := .returning, kind := .normal, roundOf := ro } [], w', seen P b.fn es, ?_, rfl, hst.guar hes, ?_⟩
    · simp only [G, stepG, unwind, List.map_cons, hr']
      simp [GStep.after]
    · rw [hsz, Foot.ext_self]
      exact leave_top hk hf hin hc ds _ w' ft a _ rfl rfl rfl rfl rfl (by rw [List.length_set]; exact hr) H' (by rw [List.length_set]; exact hn) hq
theorem run_of_J1 {g : Goroutine} {w : World} {ft : Foot} (h : J1 P W0 Post g w ft) (hb : ∀ b, ft.rd b → b < w.heap.size) (hs : ∀ b, ft.wr b → ft.rd b) (hw : W0 = w) : Ends P Post (solo g w) #[] := by
  rw [solo_eq_crowd]
  exact h #[g] w none #[] (fun _ => 0) hb hs (RelyW.refl _ _) (by subst hw; exact ⟨rfl, rfl, rfl, Nat.le_refl _⟩) rfl (leavers_one P g) (past_nil.mono (Nat.zero_le _))
end
section
variable {P : Program} {W0 : World} {Post : Value → World → Prop} {ρ : Env} {h : List AObj} {FC : Frm} {w : World} {ft : Foot} {f : RG} {a : Act} {b : FB} {K : Value → List AObj → Prop} {n0 : Nat}
theorem top_of_sem {g : FuncId} {fn : Func} (hf : P.funcs[g]? = some fn) {c : Code} (hb : fn.body = some c) (hin : P.inits.idxOf? g = none) {args : List Value} {cargs : Array Value} (ha : args.length ≤ fn.ntmps) (hl : cargs.size = args.length)
    (hr : ∀ i : Nat, VRel h.length ρ (args.getD i unk) (cargs.toList.getD i undef)) (H : HRel ρ h FC w ft)
    (hs : Sem (J1 P W0 Post) fn.ntmps h.length g c ⟨regs args, []⟩ h (RetQ P fn.results.toList h.length K))
    (hc : ∀ v h' ρ' w' ft' cv, K v h' → HRel ρ' h' FC w' ft' → Env.upto h.length ρ ρ' → h.length ≤ h'.length → VRel h'.length ρ' v cv → Base W0 w' → Post cv w') : J1 P W0 Post (G (Frame.enter P g cargs .normal) []) w ft := by
  have hJ := J1.closed P W0 Post
  obtain ⟨cargs⟩ := cargs
  simp only at hl hr
  have he : Frame.enter P g ⟨cargs⟩ .normal = FB.at ⟨g, .normal, none⟩ ⟨⟨cargs⟩ ++ Array.replicate (fn.ntmps - cargs.length) undef, []⟩ [.code c] := by
    simp [Frame.enter, FB.at, hf, hb]
  rw [he]
  have A : ActRel h.length ρ fn.ntmps ⟨regs args, []⟩ ⟨⟨cargs⟩ ++ Array.replicate (fn.ntmps - cargs.length) undef, []⟩ := by
    refine ⟨fun t => ?_, by simp at hl ⊢; omega, rfl, by simp⟩
    have := hr t
    have ht : ((⟨cargs⟩ : Array Value) ++ Array.replicate (fn.ntmps - cargs.length) undef).getD t undef = cargs.getD t undef := by
      rw [Array.getD_eq_getD_getElem?, List.getD_eq_getElem?_getD]
      by_cases hx : t < cargs.length
      · rw [Array.getElem?_append_left (by simpa using hx)]
        simp
      · rw [Array.getElem?_append_right (by simp; omega), List.getElem?_eq_none (by omega)]
        simp only [Array.getElem?_replicate]
        split <;> rfl
    rw [ht]
    exact this
  have last : ∀ f' h' ρ' w' ft' a' todo, RetQ P fn.results.toList h.length K .ret f' h' → ActRel h'.length ρ' fn.ntmps f' a' → HRel ρ' h' FC w' ft' → Env.upto h.length ρ ρ' → h.length ≤ h'.length →
      J1 P W0 Post (G { (FB.at ⟨g, .normal, none⟩ a' todo) with mode := .returning } []) w' ft' := by
    intro f' h' ρ' w' ft' a' todo q A' H' hu hl
    exact leave_top (b := ⟨g, .normal, none⟩) (f := f') (n0 := h.length) (ρ := ρ') rfl hf hin (fun v h2 ρ2 w2 ft2 cv k H2 u2 l2 v2 => hc v h2 ρ2 w2 ft2 cv k H2 (Env.upto_trans hu u2) l2 v2) f'.ds h' w' ft' a' _ rfl rfl rfl rfl A'.defers A'.regs H' hl q
  refine hs ⟨g, .normal, none⟩ _ [] [] (fun jump a w ft => jump = some .ret ∧ ∀ todo, J1 P W0 Post (G { (FB.at ⟨g, .normal, none⟩ a todo) with mode := .returning } []) w ft) ρ FC w ft rfl (by simp) ?_ A H (Nat.le_refl _) ?_
  · rintro jump a w ft todo ⟨rfl, hj⟩ hh
    rcases hh with ⟨_, k, rfl⟩ | ⟨id, k, e, _⟩ | ⟨e, _⟩
    · exact hJ.ctrl rfl rfl (fun w => by simp [G, stepG, stepG.exec, FB.at]) (hj (.code .ret :: k))
    · cases e
    · cases e
  · intro e f' h' ρ' w' ft' a' q A' H' hu hl
    cases e with
    | normal => exact hJ.ctrl rfl rfl (fun w => by simp [G, stepG, stepG.exec, FB.at]) (last f' h' ρ' w' ft' a' [] q A' H' hu hl)
    | ret => exact ⟨rfl, fun todo => last f' h' ρ' w' ft' a' todo q A' H' hu hl⟩
    | exit id => exact q.elim
    | goto l => exact q.elim
    | panic l => exact q.elim
    | outgrown => exact q.elim
end
theorem count_set : ∀ (l : List Bool) (i : Nat), l[i]? = some false → (l.set i true).count false + 1 = l.count false
  | [], i, h => by simp at h
  | b :: l, 0, h => by
    have : b = false := by simpa using h
    subst this
    simp
  | b :: l, i + 1, h => by
    have h' : l[i]? = some false := by simpa using h
    have ih := count_set l i h'
    rw [List.set_cons_succ, List.count_cons, List.count_cons]
    omega
section
variable {P : Program} {main : Bool} {J : JT} {N n0 : Nat} {fn : FuncId} {ops : Array Oper} {f : RG} {h : List AObj} {Q : QT}
theorem AnyH_inv {C : FuncId → List Value → List AObj → (Value → List AObj → Prop) → Prop} {I : Array Bool → RG → List AObj → Prop} {K : RG → List AObj → Prop}
    (step : ∀ L f h i o, I L f h → i ∈ Region.ready .any ops L → ops[i]? = some o → (∀ t, o.dst = some t → t < N) ∧ opM P C ops o f.r h fun v h' => I (L.setIfInBounds i true) (f.putO o.dst v) h')
    (last : ∀ L f h, I L f h → Region.ready .any ops L = [] → K f h) : ∀ (n : Nat) (L : Array Bool) (f : RG) (h : List AObj), L.size = ops.size → L.toList.count false ≤ n → I L f h → AnyH P C N ops (fun _ => True) n L f h K
  | 0, L, f, h, hs, hn, hi => by
    have hr : Region.ready .any ops L = [] := by
      cases e : Region.ready .any ops L with
      | nil => rfl
      | cons i l =>
        have hm : i ∈ Region.ready .any ops L := by rw [e]; exact List.mem_cons_self
        rw [mem_ready] at hm
        obtain ⟨h1, o, ho, _⟩ := hm
        have hlt : i < L.size := by rw [hs]; exact (Array.getElem?_eq_some_iff.1 ho).1
        have h2 : L.toList[i]? = some false := by
          rw [Array.getElem?_toList, Array.getElem?_eq_getElem hlt]
          rw [Array.getD_eq_getD_getElem?, Array.getElem?_eq_getElem hlt] at h1
          exact congrArg some h1
        have := count_set _ _ h2
        omega
    exact ⟨hr, last L f h hi hr⟩
  | n + 1, L, f, h, hs, hn, hi => by
    refine ⟨last L f h hi, fun i hm o ho => ?_⟩
    obtain ⟨h1, K', h2, h3⟩ := step L f h i o hi hm ho
    refine ⟨h1, K', h2, fun v h' k => ⟨fun _ => trivial, AnyH_inv step last n _ _ _ (by simpa using hs) ?_ (h3 v h' k)⟩⟩
    rw [mem_ready] at hm
    obtain ⟨q1, o', ho', _⟩ := hm
    have hlt : i < L.size := by rw [hs]; exact (Array.getElem?_eq_some_iff.1 ho').1
    have q2 : L.toList[i]? = some false := by
      rw [Array.getElem?_toList, Array.getElem?_eq_getElem hlt]
      rw [Array.getD_eq_getD_getElem?, Array.getElem?_eq_getElem hlt] at q1
      exact congrArg some q1
    have := count_set _ _ q2
    have e : (L.setIfInBounds i true).toList = L.toList.set i true := by simp
    rw [e]
    omega
theorem Sem_region_any (hJ : Closed P main J) (hm : P.follows .mixedOrders = true) {id : Nat} {S : List AObj → Prop} (hA : AnyH P (Good P J) N ops S ops.size (Array.replicate ops.size false) f h (fun f h => Q .normal f h)) : Sem J N n0 fn (.region id ops true) f h Q := by
  intro b a k cs L ρ FC w ft h1 h2 h3 h4 h5 h6 hc
  refine hJ.step rfl fun w₁ h₁ => ⟨G (b.at a (.inRegion ops (Region.schedule (P.follows .mixedOrders) ops (w₁.tape w₁.drawn (.order b.fn id))) :: k)) cs, { w₁ with drawn := w₁.drawn + 1 }, #[], ?_, rfl, (Stays.drawn ft w₁ _).guar (by simp), ?_⟩
  · simp [G, stepG, stepG.exec, FB.at, choose, Go.Sem.run, Question.forced, Question.cut]
  · rw [show ({ w₁ with drawn := w₁.drawn + 1 } : World).heap = w₁.heap from rfl, Foot.ext_self]
    have H₁ := (h5.rely h₁).of_drawn (w₁.drawn + 1)
    simp only [Region.schedule, hm, Bool.true_or, if_true]
    exact SemOps_any hJ _ _ _ _ _ hA b a k cs L ρ FC _ ft h1 h2 h3 h4 H₁ h6 hc
def dstsApart (ops : Array Oper) : Bool := (List.range ops.size).all fun i => (List.range ops.size).all fun j => i == j || (match ops[i]?, ops[j]? with
  | some a, some b => match a.dst, b.dst with
    | some x, some y => x != y
    | _, _ => true
  | _, _ => true)
theorem dstsApart_spec (hd : dstsApart ops = true) {i j : Nat} {oi oj : Oper} {t : Nat} (hi : ops[i]? = some oi) (hj : ops[j]? = some oj) (h1 : oi.dst = some t) (h2 : oj.dst = some t) : i = j := by
  have li := (Array.getElem?_eq_some_iff.1 hi).1
  have lj := (Array.getElem?_eq_some_iff.1 hj).1
  have := List.all_eq_true.1 (List.all_eq_true.1 hd i (List.mem_range.2 li)) j (List.mem_range.2 lj)
  rw [hi, hj] at this
  simp only [h1, h2] at this
  simpa using this
def afterLow (ops : Array Oper) : Bool := (List.range ops.size).all fun i => match ops[i]? with
  | some o => o.after.all fun e => !Region.binds .any e || decide (e.on < i)
  | none => true
theorem afterLow_spec (ha : afterLow ops = true) {i : Nat} {o : Oper} (hi : ops[i]? = some o) : ∀ e ∈ o.after, Region.binds .any e = true → e.on < i := by
  have li := (Array.getElem?_eq_some_iff.1 hi).1
  have := List.all_eq_true.1 ha i (List.mem_range.2 li)
  rw [hi] at this
  intro e he hb
  rw [Array.all_eq_true'] at this
  have := this e he
  rw [hb] at this
  simpa using this
theorem all_done (ha : afterLow ops = true) {L : Array Bool} (hs : L.size = ops.size) (hr : Region.ready .any ops L = []) : ∀ i, i < ops.size → L.getD i false = true := by
  intro i
  induction i using Nat.strongRecOn with
  | ind i ih =>
    intro hi
    cases e : L.getD i false with
    | true => rfl
    | false =>
      exfalso
      have ho : ops[i]? = some ops[i] := Array.getElem?_eq_getElem hi
      have hm : i ∈ Region.ready .any ops L := by
        rw [mem_ready]
        refine ⟨?_, ops[i], ho, fun e' he hb' => ?_⟩
        · rw [Array.getD_eq_getD_getElem?, Array.getElem?_eq_getElem (by omega)] at e ⊢
          exact e
        · have := afterLow_spec ha ho e' he hb'
          exact ih _ this (by omega)
      rw [hr] at hm
      cases hm
theorem setD {L : Array Bool} {i : Nat} (hi : i < L.size) : (fun j => (L.setIfInBounds i true).getD j false) = fun j => j == i || L.getD j false := by
  funext j
  rw [Array.getD_eq_getD_getElem?, Array.getD_eq_getD_getElem?]
  by_cases e : j = i
  · subst e
    rw [Array.getElem?_setIfInBounds_self_of_lt hi]
    simp
  · rw [Array.getElem?_setIfInBounds_ne (Ne.symm e)]
    simp [e]
theorem Sem_vals (hJ : Closed P main J) (hm : P.follows .mixedOrders = true) {id : Nat} (hd : dstsApart ops = true) (ha : afterLow ops = true) (V : Nat → Value → List AObj → Prop) (B : (Nat → Bool) → List AObj → Prop) (St : List AObj → List AObj → Prop)
    (hV : ∀ j v h h', St h h' → V j v h → V j v h') (h0 : B (fun _ => false) h)
    (step : ∀ (d : Nat → Bool) (i : Nat) (o : Oper) (f1 : RG) (h1 : List AObj), ops[i]? = some o → d i = false → B d h1 → (∀ t, (∀ (j : Nat) oj, ops[j]? = some oj → oj.dst ≠ some t) → f1.r t = f.r t) → (∀ e ∈ o.after, Region.binds .any e = true → ∀ oe t, ops[e.on]? = some oe → oe.dst = some t → V e.on (f1.r t) h1) →
      (∀ t, o.dst = some t → t < N) ∧ opM P (Good P J) ops o f1.r h1 fun v h' => V i v h' ∧ B (fun j => j == i || d j) h' ∧ St h1 h')
    (last : ∀ (d : Nat → Bool) (f1 : RG) (h1 : List AObj), B d h1 → f1.ds = f.ds → (∀ t, (∀ (j : Nat) oj, ops[j]? = some oj → oj.dst ≠ some t) → f1.r t = f.r t) → (∀ (i : Nat) o t, ops[i]? = some o → o.dst = some t → V i (f1.r t) h1) → Q .normal f1 h1) : Sem J N n0 fn (.region id ops true) f h Q := by
  refine Sem_region_any hJ hm (AnyH_inv (I := fun L f1 h1 => L.size = ops.size ∧ Down ops L ∧ B (fun j => L.getD j false) h1 ∧ f1.ds = f.ds ∧ (∀ t, (∀ (j : Nat) oj, ops[j]? = some oj → oj.dst ≠ some t) → f1.r t = f.r t) ∧ ∀ (i : Nat) o t, ops[i]? = some o → o.dst = some t → L.getD i false = true → V i (f1.r t) h1) ?_ ?_ _ _ _ _ (by simp) (by simp) ⟨by simp, down_init, ?_, rfl, fun _ _ => rfl, fun i o t ho _ hl => by
    have hi := (Array.getElem?_eq_some_iff.1 ho).1
    rw [Array.getD_eq_getD_getElem?, Array.getElem?_replicate, if_pos hi] at hl
    cases hl⟩)
  · rintro L f1 h1 i o ⟨hs, hD, hB, hds, hout, hin⟩ hm' ho
    have hm2 := hm'
    rw [mem_ready] at hm2
    obtain ⟨q1, o', ho', hall⟩ := hm2
    rw [ho] at ho'
    cases ho'
    have hlt : i < L.size := by rw [hs]; exact (Array.getElem?_eq_some_iff.1 ho).1
    have q2 : L.getD i false = false := by
      rw [Array.getD_eq_getD_getElem?, Array.getElem?_eq_getElem hlt] at q1 ⊢
      exact q1
    obtain ⟨g1, K', g2, g3⟩ := step _ i o f1 h1 ho q2 hB hout fun e he hb oe t hoe hte => hin e.on oe t hoe hte (hall e he hb)
    refine ⟨g1, K', g2, fun v h' k => ?_⟩
    obtain ⟨k1, k2, k3⟩ := g3 v h' k
    refine ⟨by simpa using hs, down_set hD hm', ?_, ?_, fun t ht => ?_, fun j oj t hj hjt hl => ?_⟩
    · rw [setD hlt]
      exact k2
    · rw [← hds]
      cases o.dst <;> rfl
    · rw [putO_r (fun e => ht i o ho e)]
      exact hout t ht
    · by_cases e : j = i
      · subst e
        rw [ho] at hj
        cases hj
        have : (f1.putO o.dst v).r t = v := by
          rw [hjt]
          show (bif t == t then v else f1.r t) = v
          simp
        rw [this]
        exact k1
      · rw [putO_r (fun e' => e (dstsApart_spec hd hj ho hjt e'))]
        refine hV _ _ _ _ k3 (hin j oj t hj hjt ?_)
        rw [Array.getD_eq_getD_getElem?] at hl ⊢
        rw [Array.getElem?_setIfInBounds_ne (Ne.symm e)] at hl
        exact hl
  · rintro L f1 h1 ⟨hs, hD, hB, hds, hout, hin⟩ hr
    refine last _ f1 h1 hB hds hout fun i o t ho hot => hin i o t ho hot ?_
    exact all_done ha hs hr i (Array.getElem?_eq_some_iff.1 ho).1
  · have : (fun j => (Array.replicate ops.size false).getD j false) = fun _ => false := by
      funext j
      rw [Array.getD_eq_getD_getElem?, Array.getElem?_replicate]
      split <;> rfl
    rw [this]
    exact h0
def needs (ops : Array Oper) (i j : Nat) : Bool := match ops[i]? with
  | some o => o.after.any fun e => Nat.beq e.on j && Region.binds .any e
  | none => false
theorem needs_spec {i j : Nat} (hn : needs ops i j = true) {o oj : Oper} {t : Nat} {A : Nat → Nat → Prop} (ho : ops[i]? = some o) (hoj : ops[j]? = some oj) (hjt : oj.dst = some t)
    (hdep : ∀ e ∈ o.after, Region.binds .any e = true → ∀ oe t, ops[e.on]? = some oe → oe.dst = some t → A e.on t) : A j t := by
  unfold needs at hn
  rw [ho] at hn
  simp only [Array.any_eq_true'] at hn
  obtain ⟨e, he, hb⟩ := hn
  rw [Bool.and_eq_true] at hb
  have hx : e.on = j := Nat.eq_of_beq_eq_true hb.1
  subst hx
  exact hdep e he hb.2 oj t hoj hjt
def noDst (ops : Array Oper) (t : Nat) : Bool := ops.all fun o => match o.dst with
  | some x => !Nat.beq x t
  | none => true
theorem noDst_spec {t : Nat} (hn : noDst ops t = true) (j : Nat) (oj : Oper) (hj : ops[j]? = some oj) : oj.dst ≠ some t := by
  unfold noDst at hn
  rw [Array.all_eq_true'] at hn
  intro e
  have := hn oj (Array.mem_of_getElem? hj)
  rw [e] at this
  simp at this
theorem op_step {X : RG → List AObj → (Value → List AObj → Prop) → Prop} {i d : Nat} {o p : Oper} {K : Value → List AObj → Prop}
    (e : ops[i]? = some p ∧ p.dst = some d ∧ dstOk N p = true ∧ (∀ r, gd ops p r = some true) ∧ ∀ (f : RG) (h : List AObj) (H : Value → List AObj → Prop), opW P (Good P J) p f.r h H = X f h H)
    (ho : ops[i]? = some o) (hk : X f h K) : (∀ t, o.dst = some t → t < N) ∧ opM P (Good P J) ops o f.r h K := by
  obtain ⟨e1, e2, e3, e4, e5⟩ := e
  rw [e1] at ho
  cases ho
  refine ⟨fun t ht => ?_, K, ?_, fun _ _ k => k⟩
  · unfold dstOk at e3
    rw [ht] at e3
    simpa [Nat.blt_eq] using e3
  · unfold opG
    rw [e4]
    show opW P (Good P J) _ f.r h K
    rw [e5]
    exact hk
end
end Go.Proofs.Ytindillghipjjaa
namespace Go.Proofs.Ytindillghipjjaa
open Go.Conc Go.Proofs.Try
set_option maxRecDepth 100000
def B3s (hb : Nat) (H : List AObj) (v : Value) (c : List Value) : Prop := ∃ p, v = .slice (some ⟨p, 0, none⟩) 3 3 ∧ p ≠ hb ∧ H[p]? = some (.cells c true 0)
theorem B3s.same {hb : Nat} {H H' : List AObj} {v : Value} {c : List Value} (a : B3s hb H v c) (S : SameX [hb] H H') : B3s hb H' v c := by
  obtain ⟨p, h1, h2, h3⟩ := a
  exact ⟨p, h1, h2, S.get h3 (by simpa using h2)⟩
def vf4 (w w2 : Wel) (p p2 : Pas) (s s2 : SkyR) (fr x dy : Int) (hb p16 : Nat) : Nat → Option Value
  | 0 => some (.agg ⟨w.cells⟩)
  | 1 => some (.agg ⟨w2.cells⟩)
  | 2 => some (.agg ⟨w2.cells⟩)
  | 4 => some (.agg ⟨p.cells⟩)
  | 5 => some (.agg ⟨p2.cells⟩)
  | 6 => some (.agg ⟨p2.cells⟩)
  | 8 => some (.agg ⟨s.cells⟩)
  | 9 => some (.agg ⟨s2.cells⟩)
  | 10 => some (.agg ⟨s2.cells⟩)
  | 12 => some (vint fr)
  | 13 => some (vint x)
  | 14 => some (vint fr)
  | 16 => some (vint dy)
  | 17 => some (ptr hb 0)
  | 18 => some (ptr p16 0)
  | 19 => some (vint s2.days)
  | 20 => some (vint x)
  | 21 => some (vint (s2.days - x))
  | 23 => some (vint dy)
  | _ => none
def vs4 (w w2 : Wel) (p p2 : Pas) (s s2 : SkyR) (fr x dy : Int) : Nat → Option (Int → List Value)
  | 3 => some fun _ => [w, w2, w2].flatMap Wel.cells
  | 25 => some fun _ => [w, w2, w2].flatMap Wel.cells
  | 7 => some fun _ => [p, p2, p2].flatMap Pas.cells
  | 26 => some fun _ => [p, p2, p2].flatMap Pas.cells
  | 11 => some fun _ => [s, s2, s2].flatMap SkyR.cells
  | 27 => some fun _ => [s, s2, s2].flatMap SkyR.cells
  | 15 => some fun _ => [fr, x, fr].map vint
  | 28 => some fun _ => [fr, x, fr].map vint
  | 24 => some fun y => [dy, y, dy].map vint
  | 29 => some fun y => [dy, y, dy].map vint
  | _ => none
structure Vals (hb : Nat) (F : Nat → Option Value) (G : Nat → Option (Int → List Value)) (j : Nat) (v : Value) (H : List AObj) : Prop where
  f : ∀ x, F j = some x → v = x
  g : ∀ c, G j = some c → ∃ y, B3s hb H v (c y)
  y : F j = none → G j = none → ∃ y : Int, v = vint y
section
variable {hb : Nat} {F : Nat → Option Value} {G : Nat → Option (Int → List Value)} {j : Nat} {v x : Value} {H H' : List AObj} {c : Int → List Value} {y : Int}
theorem Vals.same (a : Vals hb F G j v H) (S : SameX [hb] H H') : Vals hb F G j v H' := ⟨a.f, fun c e => let ⟨y, b⟩ := a.g c e; ⟨y, b.same S⟩, a.y⟩
theorem vals_f (e : F j = some x) (e2 : G j = none) : Vals hb F G j x H := ⟨fun z h => Option.some.inj (e.symm.trans h), fun c h => (by rw [e2] at h; cases h), fun h => (by rw [e] at h; cases h)⟩
theorem vals_g (e : G j = some c) (e2 : F j = none) (b : B3s hb H v (c y)) : Vals hb F G j v H := ⟨fun z h => (by rw [e2] at h; cases h), fun c' h => ⟨y, by rw [← Option.some.inj (e.symm.trans h)]; exact b⟩, fun _ h => (by rw [e] at h; cases h)⟩
theorem vals_y (e : F j = none) (e2 : G j = none) : Vals hb F G j (vint y) H := ⟨fun z h => (by rw [e] at h; cases h), fun c' h => (by rw [e2] at h; cases h), fun _ _ => ⟨y, rfl⟩⟩
end
section
variable {W0 : World} {Post : Value → World → Prop} {main : Bool} {J : JT} {h H H0 : List AObj} {K : Value → List AObj → Prop} {n0 : Nat}
structure M4 (Hb : List AObj) (ns : List Int) (H : List AObj) (f : RG) (w w2 : Wel) (p p2 : Pas) (s s2 : SkyR) (fr x dy : Int) (p6 p7 p8 p14 p15 p16 : Nat) : Prop where
  ds : f.ds = []
  hx : HX Hb H ns 199
  r3 : f.r 3 = vint fr
  r4 : f.r 4 = vint dy
  r6 : f.r 6 = ptr p6 0
  r7 : f.r 7 = ptr p7 0
  r8 : f.r 8 = ptr p8 0
  r13 : f.r 13 = ptr Hb.length 0
  r14 : f.r 14 = ptr p14 0
  r15 : f.r 15 = ptr p15 0
  r16 : f.r 16 = ptr p16 0
  r17 : f.r 17 = vint x
  n6 : p6 ≠ Hb.length
  n7 : p7 ≠ Hb.length
  n8 : p8 ≠ Hb.length
  n14 : p14 ≠ Hb.length
  n15 : p15 ≠ Hb.length
  n16 : p16 ≠ Hb.length
  c6 : H[p6]? = some (.cells w.cells true 0)
  c7 : H[p7]? = some (.cells p.cells true 0)
  c8 : H[p8]? = some (.cells s.cells true 0)
  c14 : H[p14]? = some (.cells w2.cells true 0)
  c15 : H[p15]? = some (.cells p2.cells true 0)
  c16 : H[p16]? = some (.cells s2.cells true 0)
  x0 : 0 ≤ x ∧ x ≤ 100
  d0 : 0 ≤ s2.days ∧ s2.days ≤ 100
theorem front4 (hJ : Closed prog main J) {w : Wel} {p : Pas} {s : SkyR} {fr dy : Int} {nv : Value} {ns : List Int} {Sx : RG → List AObj → Prop} (sn : Sli h nv 1 ns.length (ns.map vint)) (hln : ns.length < 4611686018427387904)
    (hS : ∀ Hb H f w2 p2 s2 x p6 p7 p8 p14 p15 p16, M4 Hb ns H f w w2 p p2 s s2 fr x dy p6 p7 p8 p14 p15 p16 → Sx f H) :
    W prog J 129 h.length 4 (trunc 4 (codeOf f4)) (RG.mk (regs [.agg ⟨w.cells⟩, .agg ⟨p.cells⟩, .agg ⟨s.cells⟩, vint fr, vint dy, nv]) []) h (thenK Sx (RetQ prog [.tmp 12] h.length K)) := by
  rw [e4]
  refine qBox rfl fun H1 p6 e1 S1 c1 l1 => qBox rfl fun H2 p7 e2 S2 c2 l2 => qBox rfl fun H3 p8 e3 S3 c3 l3 => ?_
  refine newX hJ (((S1.trans S2).trans S3).sli sn (by simp)) hln fun H4 a4 => ?_
  refine good30 hJ a4 (by omega) (by omega) fun w2 H5 ok5 S5 a5 => ?_
  refine good31 hJ a5 (by omega) fun p2 H6 ok6 b6 S6 a6 => ?_
  refine good32 hJ a6 (by omega) (by omega) fun s2 H7 ok7 d7 S7 a7 => ?_
  have lt7 := hxLt a7
  refine qAl fun H8 p14 e8 S8 c8 l8 => qAl fun H9 p15 e9 S9 c9 l9 => qAl fun H10 p16 e10 S10 c10 l10 => ?_
  refine qStA (c := w2.cells) ((S9.trans S10).get c8 (by simp)) rfl rfl rfl fun H11 S11 c11 l11 => ?_
  refine qStA (c := p2.cells) (S11.get (S10.get c9 (by simp)) (by simp; omega)) rfl rfl rfl fun H12 S12 c12 l12 => ?_
  refine qStA (c := s2.cells) (S12.get (S11.get c10 (by simp; omega)) (by simp; omega)) rfl rfl rfl fun H13 S13 c13 l13 => ?_
  have a13 := (((((a7.same S8 (by simp)).same S9 (by simp)).same S10 (by simp)).same S11 (by simp; omega)).same S12 (by simp; omega)).same S13 (by simp; omega)
  obtain ⟨q1, q2, q3⟩ := ok7
  refine offI (ldI (v := vint s2.days) c13 rfl rfl (subI (by omega) ?_))
  refine upX hJ a13 (by omega) (by omega) fun x H14 x1 x2 S14 l14 a14 => ?_
  have P : SameX [] H3 H14 := a14.pre
  have d14 := S14.get (S13.get (S12.get c11 (by simp; omega)) (by simp; omega)) (by simp; omega)
  have d15 := S14.get (S13.get c12 (by simp; omega)) (by simp; omega)
  have d16 := S14.get c13 (by simp; omega)
  exact hS H3 H14 _ w2 p2 s2 x p6 p7 p8 p14 p15 p16 ⟨rfl, a14.mono (by omega), rfl, rfl, rfl, rfl, rfl, rfl, rfl, rfl, rfl, rfl, by omega, by omega, by omega, by omega, by omega, by omega,
    P.get (S3.get (S2.get c1 (by simp)) (by simp)) (by simp), P.get (S3.get c2 (by simp)) (by simp), P.get c3 (by simp), d14, d15, d16, by omega, by omega⟩
set_option maxHeartbeats 2000000 in
theorem region4 (hJ : Closed prog main J) {Hb H : List AObj} {ns : List Int} {f : RG} {w w2 : Wel} {p p2 : Pas} {s s2 : SkyR} {fr x dy : Int} {p6 p7 p8 p14 p15 p16 : Nat} {Q : QT} (M : M4 Hb ns H f w w2 p p2 s s2 fr x dy p6 p7 p8 p14 p15 p16)
    (hS : ∀ f' H' y, f'.ds = [] → B3s Hb.length H' (f'.r 18) ([w, w2, w2].flatMap Wel.cells) → B3s Hb.length H' (f'.r 19) ([p, p2, p2].flatMap Pas.cells) → B3s Hb.length H' (f'.r 20) ([s, s2, s2].flatMap SkyR.cells) → B3s Hb.length H' (f'.r 21) ([fr, x, fr].map vint) → B3s Hb.length H' (f'.r 22) ([dy, y, dy].map vint) → Q .normal f' H') :
    Sem J 129 n0 4 (subC [1, 1, 1, 1, 0] (codeOf f4)) f H Q := by
  rw [r4_1]
  have z := z4_1
  refine Sem_vals hJ mixed (by kernel_rfl) (by kernel_rfl) (Vals Hb.length (vf4 w w2 p p2 s s2 fr x dy Hb.length p16) (vs4 w w2 p p2 s s2 fr x dy)) (fun d H' => HX Hb H' ns (bif d 22 then 200 else 199) ∧ SameX [Hb.length] H H') (SameX [Hb.length]) (fun j v h h' S a => a.same S) ⟨M.hx, SameX.refl⟩ ?_ ?_
  · intro d i o f1 h1 ho hd hB hout hdep
    obtain ⟨hx, S⟩ := hB
    have out : ∀ {t}, noDst ops4_1 t = true → f1.r t = f.r t := fun hn => hout _ (noDst_spec hn)
    have hi : i < 30 := by
      have := (Array.getElem?_eq_some_iff.1 ho).1
      omega
    have dep : ∀ {j pj t}, needs ops4_1 i j = true → (ops4_1[j]? = some pj ∧ pj.dst = some t) → Vals Hb.length (vf4 w w2 p p2 s s2 fr x dy Hb.length p16) (vs4 w w2 p p2 s s2 fr x dy) j (f1.r t) h1 := fun hn e => needs_spec (A := fun j t => Vals Hb.length _ _ j (f1.r t) h1) hn ho e.1 e.2 hdep
    have same : ∀ {v}, i ≠ 22 → Vals Hb.length (vf4 w w2 p p2 s s2 fr x dy Hb.length p16) (vs4 w w2 p p2 s s2 fr x dy) i v h1 → Vals Hb.length (vf4 w w2 p p2 s s2 fr x dy Hb.length p16) (vs4 w w2 p p2 s s2 fr x dy) i v h1 ∧ (HX Hb h1 ns (bif (22 == i || d 22) then 200 else 199) ∧ SameX [Hb.length] H h1) ∧ SameX [Hb.length] h1 h1 := fun {v} hi q => by
      have e : (22 == i) = false := by
        rw [beq_eq_false_iff_ne]
        exact fun e => hi e.symm
      rw [e, Bool.false_or]
      exact ⟨q, ⟨hx, S⟩, SameX.refl⟩
    have made : ∀ {c g} {y : Int} {h2 : List AObj} {q : Nat}, i ≠ 22 → vs4 w w2 p p2 s s2 fr x dy i = some g → vf4 w w2 p p2 s s2 fr x dy Hb.length p16 i = none → g y = c → q = h1.length → SameX [] h1 h2 → h2[q]? = some (.cells c true 0) → Vals Hb.length (vf4 w w2 p p2 s s2 fr x dy Hb.length p16) (vs4 w w2 p p2 s s2 fr x dy) i (.slice (some ⟨q, 0, none⟩) 3 3) h2 ∧ (HX Hb h2 ns (bif (22 == i || d 22) then 200 else 199) ∧ SameX [Hb.length] H h2) ∧ SameX [Hb.length] h1 h2 := fun {c g y h2 q} hi e1 e2 e3 eq S2 c2 => by
      have e : (22 == i) = false := by
        rw [beq_eq_false_iff_ne]
        exact fun e => hi e.symm
      have := hxLt hx
      rw [e, Bool.false_or]
      exact ⟨vals_g e1 e2 (y := y) ⟨q, rfl, by omega, by rw [e3]; exact c2⟩, ⟨hx.same S2 (by simp), S.trans S2.weak0⟩, S2.weak0⟩
    match i, hi with
    | 0, _ =>
      refine op_step o4_1_0 ho ?_
      rw [out (t := 6) (by kernel_rfl), M.r6]
      exact load_part (c := w.cells) (S.get M.c6 (by simpa using M.n6)) (by simp [Wel.cells]) rfl rfl (same (by decide) (vals_f rfl rfl))
    | 1, _ =>
      refine op_step o4_1_1 ho ?_
      rw [out (t := 14) (by kernel_rfl), M.r14]
      exact load_part (c := w2.cells) (S.get M.c14 (by simpa using M.n14)) (by simp [Wel.cells]) rfl rfl (same (by decide) (vals_f rfl rfl))
    | 2, _ =>
      refine op_step o4_1_2 ho ?_
      rw [out (t := 14) (by kernel_rfl), M.r14]
      exact load_part (c := w2.cells) (S.get M.c14 (by simpa using M.n14)) (by simp [Wel.cells]) rfl rfl (same (by decide) (vals_f rfl rfl))
    | 3, _ =>
      refine op_step o4_1_3 ho ?_
      have u0 := (dep (j := 0) (t := 41) (by kernel_rfl) ⟨o4_1_0 (J := J).1, o4_1_0 (J := J).2.1⟩).f _ rfl
      have u1 := (dep (j := 1) (t := 42) (by kernel_rfl) ⟨o4_1_1 (J := J).1, o4_1_1 (J := J).2.1⟩).f _ rfl
      have u2 := (dep (j := 2) (t := 43) (by kernel_rfl) ⟨o4_1_2 (J := J).1, o4_1_2 (J := J).2.1⟩).f _ rfl
      rw [u0, u1, u2]
      refine ⟨by decide, fillO (l := w.cells) rfl rfl rfl (Nat.le_of_ble_eq_true rfl) (fillO (l := w2.cells) rfl rfl rfl (Nat.le_of_ble_eq_true rfl) (fillO (l := w2.cells) rfl rfl rfl (Nat.le_of_ble_eq_true rfl) (fillI (qNew fun h2 q eq S2 c2 l2 => ?_))))⟩
      exact made (by decide) rfl rfl (y := 0) rfl eq S2 c2
    | 4, _ =>
      refine op_step o4_1_4 ho ?_
      rw [out (t := 7) (by kernel_rfl), M.r7]
      exact load_part (c := p.cells) (S.get M.c7 (by simpa using M.n7)) (by simp [Pas.cells]) rfl rfl (same (by decide) (vals_f rfl rfl))
    | 5, _ =>
      refine op_step o4_1_5 ho ?_
      rw [out (t := 15) (by kernel_rfl), M.r15]
      exact load_part (c := p2.cells) (S.get M.c15 (by simpa using M.n15)) (by simp [Pas.cells]) rfl rfl (same (by decide) (vals_f rfl rfl))
    | 6, _ =>
      refine op_step o4_1_6 ho ?_
      rw [out (t := 15) (by kernel_rfl), M.r15]
      exact load_part (c := p2.cells) (S.get M.c15 (by simpa using M.n15)) (by simp [Pas.cells]) rfl rfl (same (by decide) (vals_f rfl rfl))
    | 7, _ =>
      refine op_step o4_1_7 ho ?_
      have u4 := (dep (j := 4) (t := 45) (by kernel_rfl) ⟨o4_1_4 (J := J).1, o4_1_4 (J := J).2.1⟩).f _ rfl
      have u5 := (dep (j := 5) (t := 46) (by kernel_rfl) ⟨o4_1_5 (J := J).1, o4_1_5 (J := J).2.1⟩).f _ rfl
      have u6 := (dep (j := 6) (t := 47) (by kernel_rfl) ⟨o4_1_6 (J := J).1, o4_1_6 (J := J).2.1⟩).f _ rfl
      rw [u4, u5, u6]
      refine ⟨by decide, fillO (l := p.cells) rfl rfl rfl (Nat.le_of_ble_eq_true rfl) (fillO (l := p2.cells) rfl rfl rfl (Nat.le_of_ble_eq_true rfl) (fillO (l := p2.cells) rfl rfl rfl (Nat.le_of_ble_eq_true rfl) (fillI (qNew fun h2 q eq S2 c2 l2 => ?_))))⟩
      exact made (by decide) rfl rfl (y := 0) rfl eq S2 c2
    | 8, _ =>
      refine op_step o4_1_8 ho ?_
      rw [out (t := 8) (by kernel_rfl), M.r8]
      exact load_part (c := s.cells) (S.get M.c8 (by simpa using M.n8)) (by simp [SkyR.cells]) rfl rfl (same (by decide) (vals_f rfl rfl))
    | 9, _ =>
      refine op_step o4_1_9 ho ?_
      rw [out (t := 16) (by kernel_rfl), M.r16]
      exact load_part (c := s2.cells) (S.get M.c16 (by simpa using M.n16)) (by simp [SkyR.cells]) rfl rfl (same (by decide) (vals_f rfl rfl))
    | 10, _ =>
      refine op_step o4_1_10 ho ?_
      rw [out (t := 16) (by kernel_rfl), M.r16]
      exact load_part (c := s2.cells) (S.get M.c16 (by simpa using M.n16)) (by simp [SkyR.cells]) rfl rfl (same (by decide) (vals_f rfl rfl))
    | 11, _ =>
      refine op_step o4_1_11 ho ?_
      have u8 := (dep (j := 8) (t := 49) (by kernel_rfl) ⟨o4_1_8 (J := J).1, o4_1_8 (J := J).2.1⟩).f _ rfl
      have u9 := (dep (j := 9) (t := 50) (by kernel_rfl) ⟨o4_1_9 (J := J).1, o4_1_9 (J := J).2.1⟩).f _ rfl
      have u10 := (dep (j := 10) (t := 51) (by kernel_rfl) ⟨o4_1_10 (J := J).1, o4_1_10 (J := J).2.1⟩).f _ rfl
      rw [u8, u9, u10]
      refine ⟨by decide, fillO (l := s.cells) rfl rfl rfl (Nat.le_of_ble_eq_true rfl) (fillO (l := s2.cells) rfl rfl rfl (Nat.le_of_ble_eq_true rfl) (fillO (l := s2.cells) rfl rfl rfl (Nat.le_of_ble_eq_true rfl) (fillI (qNew fun h2 q eq S2 c2 l2 => ?_))))⟩
      exact made (by decide) rfl rfl (y := 0) rfl eq S2 c2
    | 12, _ =>
      refine op_step o4_1_12 ho ?_
      rw [out (t := 3) (by kernel_rfl), M.r3]
      exact same (by decide) (vals_f rfl rfl)
    | 13, _ =>
      refine op_step o4_1_13 ho ?_
      rw [out (t := 17) (by kernel_rfl), M.r17]
      exact same (by decide) (vals_f rfl rfl)
    | 14, _ =>
      refine op_step o4_1_14 ho ?_
      rw [out (t := 3) (by kernel_rfl), M.r3]
      exact same (by decide) (vals_f rfl rfl)
    | 15, _ =>
      refine op_step o4_1_15 ho ?_
      have u12 := (dep (j := 12) (t := 53) (by kernel_rfl) ⟨o4_1_12 (J := J).1, o4_1_12 (J := J).2.1⟩).f _ rfl
      have u13 := (dep (j := 13) (t := 54) (by kernel_rfl) ⟨o4_1_13 (J := J).1, o4_1_13 (J := J).2.1⟩).f _ rfl
      have u14 := (dep (j := 14) (t := 55) (by kernel_rfl) ⟨o4_1_14 (J := J).1, o4_1_14 (J := J).2.1⟩).f _ rfl
      rw [u12, u13, u14]
      refine ⟨by decide, fillO (l := [vint fr]) rfl rfl rfl (Nat.le_of_ble_eq_true rfl) (fillO (l := [vint x]) rfl rfl rfl (Nat.le_of_ble_eq_true rfl) (fillO (l := [vint fr]) rfl rfl rfl (Nat.le_of_ble_eq_true rfl) (fillI (qNew fun h2 q eq S2 c2 l2 => ?_))))⟩
      exact made (by decide) rfl rfl (y := 0) rfl eq S2 c2
    | 16, _ =>
      refine op_step o4_1_16 ho ?_
      rw [out (t := 4) (by kernel_rfl), M.r4]
      exact same (by decide) (vals_f rfl rfl)
    | 17, _ =>
      refine op_step o4_1_17 ho ?_
      rw [out (t := 13) (by kernel_rfl), M.r13]
      exact same (by decide) (vals_f rfl rfl)
    | 18, _ =>
      refine op_step o4_1_18 ho ?_
      rw [out (t := 16) (by kernel_rfl), M.r16]
      exact offI (same (by decide) (vals_f rfl rfl))
    | 19, _ =>
      refine op_step o4_1_19 ho ?_
      have u18 := (dep (j := 18) (t := 59) (by kernel_rfl) ⟨o4_1_18 (J := J).1, o4_1_18 (J := J).2.1⟩).f _ rfl
      rw [u18]
      exact ldI (v := vint s2.days) (S.get M.c16 (by simpa using M.n16)) rfl rfl (same (by decide) (vals_f rfl rfl))
    | 20, _ =>
      refine op_step o4_1_20 ho ?_
      rw [out (t := 17) (by kernel_rfl), M.r17]
      exact same (by decide) (vals_f rfl rfl)
    | 21, _ =>
      refine op_step o4_1_21 ho ?_
      have u19 := (dep (j := 19) (t := 60) (by kernel_rfl) ⟨o4_1_19 (J := J).1, o4_1_19 (J := J).2.1⟩).f _ rfl
      have u20 := (dep (j := 20) (t := 61) (by kernel_rfl) ⟨o4_1_20 (J := J).1, o4_1_20 (J := J).2.1⟩).f _ rfl
      rw [u19, u20]
      have := M.x0
      have := M.d0
      exact subI (by omega) (same (by decide) (vals_f rfl rfl))
    | 22, _ =>
      refine op_step o4_1_22 ho ?_
      have u17 := (dep (j := 17) (t := 58) (by kernel_rfl) ⟨o4_1_17 (J := J).1, o4_1_17 (J := J).2.1⟩).f _ rfl
      have u21 := (dep (j := 21) (t := 62) (by kernel_rfl) ⟨o4_1_21 (J := J).1, o4_1_21 (J := J).2.1⟩).f _ rfl
      rw [u17, u21]
      have := M.x0
      have := M.d0
      rw [hd] at hx
      refine amX hJ hx (by show (199 : Nat) < 1000000; omega) (by omega) (by omega) fun y h2 y1 y2 S2 l2 hx2 => ?_
      exact ⟨vals_y rfl rfl, ⟨hx2, S.trans S2⟩, S2⟩
    | 23, _ =>
      refine op_step o4_1_23 ho ?_
      rw [out (t := 4) (by kernel_rfl), M.r4]
      exact same (by decide) (vals_f rfl rfl)
    | 24, _ =>
      refine op_step o4_1_24 ho ?_
      have u16 := (dep (j := 16) (t := 57) (by kernel_rfl) ⟨o4_1_16 (J := J).1, o4_1_16 (J := J).2.1⟩).f _ rfl
      have u23 := (dep (j := 23) (t := 64) (by kernel_rfl) ⟨o4_1_23 (J := J).1, o4_1_23 (J := J).2.1⟩).f _ rfl
      obtain ⟨y, u22⟩ := (dep (j := 22) (t := 63) (by kernel_rfl) ⟨o4_1_22 (J := J).1, o4_1_22 (J := J).2.1⟩).y rfl rfl
      rw [u16, u22, u23]
      refine ⟨by decide, fillO (l := [vint dy]) rfl rfl rfl (Nat.le_of_ble_eq_true rfl) (fillO (l := [vint y]) rfl rfl rfl (Nat.le_of_ble_eq_true rfl) (fillO (l := [vint dy]) rfl rfl rfl (Nat.le_of_ble_eq_true rfl) (fillI (qNew fun h2 q eq S2 c2 l2 => ?_))))⟩
      exact made (by decide) rfl rfl (y := y) rfl eq S2 c2
    | 25, _ =>
      refine op_step o4_1_25 ho ?_
      have u := (dep (j := 3) (t := 44) (by kernel_rfl) ⟨o4_1_3 (J := J).1, o4_1_3 (J := J).2.1⟩).g _ rfl
      obtain ⟨y, u⟩ := u
      exact same (by decide) (vals_g rfl rfl (y := y) u)
    | 26, _ =>
      refine op_step o4_1_26 ho ?_
      have u := (dep (j := 7) (t := 48) (by kernel_rfl) ⟨o4_1_7 (J := J).1, o4_1_7 (J := J).2.1⟩).g _ rfl
      obtain ⟨y, u⟩ := u
      exact same (by decide) (vals_g rfl rfl (y := y) u)
    | 27, _ =>
      refine op_step o4_1_27 ho ?_
      have u := (dep (j := 11) (t := 52) (by kernel_rfl) ⟨o4_1_11 (J := J).1, o4_1_11 (J := J).2.1⟩).g _ rfl
      obtain ⟨y, u⟩ := u
      exact same (by decide) (vals_g rfl rfl (y := y) u)
    | 28, _ =>
      refine op_step o4_1_28 ho ?_
      have u := (dep (j := 15) (t := 56) (by kernel_rfl) ⟨o4_1_15 (J := J).1, o4_1_15 (J := J).2.1⟩).g _ rfl
      obtain ⟨y, u⟩ := u
      exact same (by decide) (vals_g rfl rfl (y := y) u)
    | 29, _ =>
      refine op_step o4_1_29 ho ?_
      have u := (dep (j := 24) (t := 65) (by kernel_rfl) ⟨o4_1_24 (J := J).1, o4_1_24 (J := J).2.1⟩).g _ rfl
      obtain ⟨y, u⟩ := u
      exact same (by decide) (vals_g rfl rfl (y := y) u)
  · intro d f1 h1 hB ds hout hin
    have at_ : ∀ {j pj t}, (ops4_1[j]? = some pj ∧ pj.dst = some t) → Vals Hb.length (vf4 w w2 p p2 s s2 fr x dy Hb.length p16) (vs4 w w2 p p2 s s2 fr x dy) j (f1.r t) h1 := fun e => hin _ _ _ e.1 e.2
    obtain ⟨y25, u25⟩ := (at_ (j := 25) (t := 18) ⟨o4_1_25 (J := J).1, o4_1_25 (J := J).2.1⟩).g _ rfl
    obtain ⟨y26, u26⟩ := (at_ (j := 26) (t := 19) ⟨o4_1_26 (J := J).1, o4_1_26 (J := J).2.1⟩).g _ rfl
    obtain ⟨y27, u27⟩ := (at_ (j := 27) (t := 20) ⟨o4_1_27 (J := J).1, o4_1_27 (J := J).2.1⟩).g _ rfl
    obtain ⟨y28, u28⟩ := (at_ (j := 28) (t := 21) ⟨o4_1_28 (J := J).1, o4_1_28 (J := J).2.1⟩).g _ rfl
    obtain ⟨y29, u29⟩ := (at_ (j := 29) (t := 22) ⟨o4_1_29 (J := J).1, o4_1_29 (J := J).2.1⟩).g _ rfl
    exact hS f1 h1 y29 (ds.trans M.ds) u25 u26 u27 u28 u29
end
section
variable {W0 : World} {Post : Value → World → Prop} {h H H0 : List AObj} {K : Value → List AObj → Prop} {n0 : Nat}
theorem rec3 {α : Type} {enc : α → List Value} {s : Nat} (hen : ∀ x, (enc x).length = s) (hkn : ∀ x, kn (enc x) = true) {xs : List α} {p i : Nat} {KI : Value → Value → Prop} (hb : H[p]? = some (.cells (xs.flatMap enc) true 0)) (hx : xs.length = 3) (hi : i < 3) (hk : ∀ o, KI (ptr p o) (.agg ⟨enc (xs[i]'(by omega))⟩)) :
    aIdx s (.slice (some ⟨p, 0, none⟩) 3 3) (vint (i : Nat)) fun v => aLoad true s v H (KI v) := by
  refine idxI ⟨by omega, by omega⟩ ?_
  rw [Int.toNat_natCast, Nat.zero_add]
  have hfl : (xs.flatMap enc).length = 3 * s := by
    have : ∀ l : List α, (l.flatMap enc).length = l.length * s := fun l => by
      induction l with
      | nil => simp
      | cons x l ih => rw [List.flatMap_cons, List.length_append, ih, hen, List.length_cons, Nat.succ_mul]; omega
    rw [this, hx]
  refine load_part (c := enc xs[i]) hb ?_ (flat_take hen xs i (by omega)) (hkn _) (hk _)
  rw [hfl, show (3 : Nat) = 2 + 1 from rfl, Nat.succ_mul]
  have := Nat.mul_le_mul_right s (show i ≤ 2 by omega)
  omega
theorem int3 {zs : List Int} {p i : Nat} {KI : Value → Value → Prop} (hb : H[p]? = some (.cells (zs.map vint) true 0)) (hx : zs.length = 3) (hi : i < 3) (hk : ∀ o, KI (ptr p o) (vint (zs[i]'(by omega)))) :
    aIdx 1 (.slice (some ⟨p, 0, none⟩) 3 3) (vint (i : Nat)) fun v => aLoad false 1 v H (KI v) := by
  refine idxI ⟨by omega, by omega⟩ ?_
  rw [Int.toNat_natCast, Nat.zero_add, Nat.mul_one]
  exact ldI hb (by rw [List.getElem?_map, List.getElem?_eq_getElem (by omega)]; rfl) rfl (hk _)
theorem loop4 {f : RG} {p18 p19 p20 p21 p22 : Nat} {ws : List Wel} {ps : List Pas} {ss : List SkyR} {fs ds : List Int} (lw : ws.length = 3) (lp : ps.length = 3) (ls : ss.length = 3) (lf : fs.length = 3) (ld : ds.length = 3)
    (c18 : H0[p18]? = some (.cells (ws.flatMap Wel.cells) true 0)) (c19 : H0[p19]? = some (.cells (ps.flatMap Pas.cells) true 0)) (c20 : H0[p20]? = some (.cells (ss.flatMap SkyR.cells) true 0)) (c21 : H0[p21]? = some (.cells (fs.map vint) true 0)) (c22 : H0[p22]? = some (.cells (ds.map vint) true 0))
    (hds : f.ds = []) (r18 : f.r 18 = .slice (some ⟨p18, 0, none⟩) 3 3) (r19 : f.r 19 = .slice (some ⟨p19, 0, none⟩) 3 3) (r20 : f.r 20 = .slice (some ⟨p20, 0, none⟩) 3 3) (r21 : f.r 21 = .slice (some ⟨p21, 0, none⟩) 3 3) (r22 : f.r 22 = .slice (some ⟨p22, 0, none⟩) 3 3) (hK : ∀ h', K (.bool true) h') :
    Sem (J1 prog W0 Post) 129 n0 4 (subC [1, 1, 1, 1, 1] (codeOf f4)) f H0 (RetQ prog [.tmp 12] n0 K) := by
  have hJ := J1.closed prog W0 Post
  refine W_sound hJ mixed _ ?_
  have e := s4t_1 (J := J1 prog W0 Post) (n0 := n0) (K := K) (f := f) (h := H0)
  refine e.mpr ?_
  refine l4t_2 hJ (fun i : Nat => 3 - i) (fun i f H => SameX [] H0 H ∧ i ≤ 3 ∧ f.ds = [] ∧ f.r 18 = .slice (some ⟨p18, 0, none⟩) 3 3 ∧ f.r 19 = .slice (some ⟨p19, 0, none⟩) 3 3 ∧ f.r 20 = .slice (some ⟨p20, 0, none⟩) 3 3 ∧ f.r 21 = .slice (some ⟨p21, 0, none⟩) 3 3 ∧ f.r 22 = .slice (some ⟨p22, 0, none⟩) 3 3 ∧ f.r 23 = vint (i : Nat)) ?_ (s := 0)
    (.inl ⟨SameX.refl, by omega, hds, r18, r19, r20, r21, r22, rfl⟩)
  rintro i f H ⟨S, hi, ds0, r18, r19, r20, r21, r22, r23⟩ ok' hn'
  rw [s4t_2, r18, r19, r20, r21, r22, r23, ds0, lenS]
  refine lssI (cndI (fun hlt => ?_) fun hge => good19 fun H3 => retL_same (by simp [unk]) (hK _))
  have hi3 : i < 3 := by omega
  refine rec3 (enc := Wel.cells) (fun _ => rfl) (fun _ => rfl) (S.get c18 (by simp)) lw hi3 fun _ => ?_
  refine rec3 (enc := Pas.cells) (fun _ => rfl) (fun _ => rfl) (S.get c19 (by simp)) lp hi3 fun _ => ?_
  refine rec3 (enc := SkyR.cells) (fun _ => rfl) (fun _ => rfl) (S.get c20 (by simp)) ls hi3 fun _ => ?_
  refine int3 (S.get c21 (by simp)) lf hi3 fun _ => int3 (S.get c22 (by simp)) ld hi3 fun _ => ?_
  refine good34 hJ fun H1 S1 => ext0 (ext1 ?_)
  have T1 := S.trans S1
  refine rec3 (enc := Wel.cells) (fun _ => rfl) (fun _ => rfl) (T1.get c18 (by simp)) lw hi3 fun _ => ?_
  refine rec3 (enc := Pas.cells) (fun _ => rfl) (fun _ => rfl) (T1.get c19 (by simp)) lp hi3 fun _ => ?_
  refine rec3 (enc := SkyR.cells) (fun _ => rfl) (fun _ => rfl) (T1.get c20 (by simp)) ls hi3 fun _ => ?_
  refine int3 (T1.get c21 (by simp)) lf hi3 fun _ => int3 (T1.get c22 (by simp)) ld hi3 fun _ => ?_
  refine good35 hJ fun H2 S2 => ext0 (ext1 ?_)
  have T2 := T1.trans S2
  refine neqI (cndI (fun hx => absurd rfl hx) fun _ => neqI (hold.2 ?_))
  rw [s4t_3]
  show cnd (.bool (decide _)) _ _
  refine cndI (fun hx => absurd rfl hx) fun _ => ?_
  show aBin prog .add 3 (f.r 23) (vint 1) _
  rw [r23]
  refine addI (by omega) ?_
  exact ⟨i + 1, by dsimp only; omega, .inl ⟨T2, by omega, ds0, r18, r19, r20, r21, r22, by show vint _ = vint _; congr 1⟩⟩
theorem walk4 {w : Wel} {p : Pas} {s : SkyR} {fr dy : Int} {nv : Value} {ns : List Int} (sn : Sli h nv 1 ns.length (ns.map vint)) (hln : ns.length < 4611686018427387904) (hK : ∀ h', K (.bool true) h') :
    Sem (J1 prog W0 Post) 129 h.length 4 (codeOf f4) (RG.mk (regs [.agg ⟨w.cells⟩, .agg ⟨p.cells⟩, .agg ⟨s.cells⟩, vint fr, vint dy, nv]) []) h (RetQ prog [.tmp 12] h.length K) := by
  have hJ := J1.closed prog W0 Post
  refine trunc_sound hJ mixed 4 (codeOf f4) (by kernel_rfl) (front4 hJ sn hln fun Hb H f w2 p2 s2 x p6 p7 p8 p14 p15 p16 M => ?_)
  have e : subC (List.replicate 4 1) (codeOf f4) = .seq (subC [1, 1, 1, 1, 0] (codeOf f4)) (subC [1, 1, 1, 1, 1] (codeOf f4)) := by kernel_rfl
  rw [e]
  refine Sem_seq hJ (region4 hJ M fun f' H' y ds b18 b19 b20 b21 b22 => ?_)
  obtain ⟨q18, e18, _, c18⟩ := b18
  obtain ⟨q19, e19, _, c19⟩ := b19
  obtain ⟨q20, e20, _, c20⟩ := b20
  obtain ⟨q21, e21, _, c21⟩ := b21
  obtain ⟨q22, e22, _, c22⟩ := b22
  exact loop4 rfl rfl rfl rfl rfl c18 c19 c20 c21 c22 ds e18 e19 e20 e21 e22 hK
end
end Go.Proofs.Ytindillghipjjaa
namespace Go.Proofs.Ytindillghipjjaa
open Go.Conc Go.RowKit
def idEnv : Env := ⟨fun b => b, fun _ => 0⟩
def startFt (w : World) : Foot := ⟨fun b => b < w.heap.size, fun _ => False⟩
def startFC (w : World) : Frm := ⟨fun b => w.heap[b]?, fun _ => False⟩
def Fine (n : Nat) (v : Value) : Prop := VOk n v ∧ one v = true ∧ ren idEnv v = v
open Classical in
noncomputable def clean (n : Nat) (v : Value) : Value := if Fine n v then v else unk
noncomputable def absO (n : Nat) : Obj → AObj
  | .cells c _ _ => .cells (c.toList.map (clean n)) false 0
  | _ => .dead
noncomputable def absH (w : World) : List AObj := w.heap.toList.map (absO w.heap.size)
section
variable {w w' : World} {n : Nat}
theorem clean_fine {v : Value} (h : Fine n v) : clean n v = v := by simp [clean, h]
theorem absH_len : (absH w).length = w.heap.size := by simp [absH]
theorem absH_get {b : Nat} : (absH w)[b]? = (w.heap[b]?).map (absO w.heap.size) := by simp [absH]
theorem absO_wrt (x : Obj) : (absO n x).wrt = false := by cases x <;> rfl
theorem start_rel (w : World) : HRel idEnv (absH w) (startFC w) w (startFt w) where
  obj := fun b o hb => by
    rw [absH_get] at hb
    obtain ⟨x, hx, rfl⟩ := Option.map_eq_some_iff.1 hb
    show ORel (absH w).length idEnv b (absO w.heap.size x) w.heap[b]?
    rw [absH_len, hx]
    cases x with
    | cells c ty fr =>
      refine ⟨fun i v hv => ?_, fun _ => by simp, fun hz => absurd rfl hz, fun e => by cases e⟩
      rw [List.getElem?_map] at hv
      obtain ⟨u, hu, rfl⟩ := Option.map_eq_some_iff.1 hv
      by_cases hf : Fine w.heap.size u
      · rw [clean_fine hf]
        exact .inr ⟨hf.1, hf.2.1, by rw [hf.2.2]; simpa using hu⟩
      · exact .inl ⟨by simp [clean, hf], rfl⟩
    | _ => trivial
  inj := fun b b' o o' _ _ _ _ e => e
  rd := fun b o hb _ => by
    have : b < (absH w).length := (List.getElem?_eq_some_iff.1 hb).1
    rw [absH_len] at this
    exact this
  wr := fun b o hb hw => by
    rw [absH_get] at hb
    obtain ⟨x, hx, rfl⟩ := Option.map_eq_some_iff.1 hb
    rw [absO_wrt] at hw
    cases hw
  lt := fun b hb => hb
  sub := fun b hb => hb.elim
  kept := fun b o hb => by
    refine ⟨hb, ?_, fun a oa ha hw => ?_⟩
    · exact (Array.getElem?_eq_some_iff.1 hb).1
    · rw [absH_get] at ha
      obtain ⟨x, hx, rfl⟩ := Option.map_eq_some_iff.1 ha
      rw [absO_wrt] at hw
      cases hw
  keptW := fun b hb => hb.elim
theorem absH_cell {b o : Nat} {v : Value} (hc : w.cell? ⟨b, o, none⟩ = some v) (hf : Fine w.heap.size v) : ∃ c, (absH w)[b]? = some (.cells c false 0) ∧ c[o]? = some v := by
  unfold World.cell? at hc
  simp only at hc
  split at hc
  · rename_i c ty fr hx
    refine ⟨c.toList.map (clean w.heap.size), by rw [absH_get, hx]; rfl, ?_⟩
    have hc' : c[o]? = some v := by simpa using hc
    rw [List.getElem?_map, Array.getElem?_toList, hc']
    simp [clean_fine hf]
  · cases hc
theorem below_of {ρ' : Env} {h' : List AObj} {ft' : Foot} (H : HRel ρ' h' (startFC w) w' ft') (B : Base w w') : Below w.heap.size w w' :=
  ⟨B.os, B.tape, B.output, B.size, fun k hk => by
    have : (startFC w).ob k = some w.heap[k] := by simp [startFC, hk]
    rw [(H.kept k _ this).1, Array.getElem?_eq_getElem hk]⟩
end
end Go.Proofs.Ytindillghipjjaa
namespace Go.Proofs.Ytindillghipjjaa
open Go.Conc Go.ChangeShapes Go.WideShapes Go.ChangeAt Go.RowKit Go.Proofs.Try
set_option maxRecDepth 100000
theorem own : ownKnob prog.godebug = none := by kernel_rfl
theorem laidOut : laidOutB prog = true := by kernel_rfl
def ArgOk (W : World) (v : Value) : Prop := VOk W.heap.size v ∧ ren idEnv v = v
theorem argOk_int {W : World} {k : IntKind} {n : Int} : ArgOk W (.int k n) := ⟨by simp [VOk], by simp [ren]⟩
section
variable {H : Type} {enc : TypeId × Value → H}
theorem arg_ints {t e : TypeId} (ht : prog.underlying t = some (.slice e)) (he : prog.underlying e = some (.int .i64)) (hc : prog.cellsOf e = 1) {W : World} {base : Nat} {v : Value} {d : DataW H} {ps : List MemPlace}
    (hval : Value.okWide prog W .any base t v) (hd : DataW.Trod enc prog W 0 (fun _ => true) true t v d ps) :
    ∃ zs : List Int, Sli (absH W) v 1 zs.length (zs.map vint) ∧ ArgOk W v ∧ (zs = [] ∨ ∃ es sp, d = .slice es sp ∧ zs.length ≤ es.length + sp.length) := by
  obtain ⟨a0, len, cap, rfl⟩ := okWide_slice ht hval
  obtain ⟨fuel, hf⟩ := hd
  rcases open_ints ht he hc hf with ⟨hcs, hx⟩ | ⟨a, len', cap', zs, hcs, _, hl, hm, hz, hx, hcell, hwz⟩
  · simp [Value.cells] at hcs
    obtain ⟨rfl, rfl, rfl⟩ := hcs
    exact ⟨[], sli_nil, ⟨by simp [VOk], by simp [ren]⟩, .inl rfl⟩
  · simp [Value.cells] at hcs
    obtain ⟨rfl, rfl, rfl⟩ := hcs
    simp only [Prod.mk.injEq] at hx
    obtain ⟨rfl, rfl⟩ := hx
    simp only [if_true] at hz
    simp only [Value.okWide, ht, Cell.okWide, Cell.ok, World.has] at hval
    obtain ⟨_, _, _, hspot, row, cells, hshape, _⟩ := hval
    obtain ⟨b, o, spot⟩ := a
    simp only at hspot hshape
    subst hspot
    have hb : b < W.heap.size := by
      unfold World.shape? at hshape
      split at hshape
      · rename_i h
        exact (Array.getElem?_eq_some_iff.1 h).1
      · cases hshape
    have hlen : (zs.take len).length = len := by simp; omega
    have hcell' : ∀ i, i < zs.length → W.cell? ⟨b, o + i, none⟩ = some (vint (zs.getD i 0)) := by
      intro i hi
      have := hcell i hi
      unfold Addr.add at this
      by_cases h0 : i = 0
      · subst h0; simpa using this
      · simpa [h0] using this
    have hmax : cap < fz := by
      simp only [maxLen] at hm
      unfold fz
      omega
    refine ⟨zs.take len, ?_, ⟨by simp only [VOk, AddrOk]; exact ⟨hb, trivial⟩, ?_⟩, .inr ⟨_, _, rfl, ?_⟩⟩
    · refine ⟨some ⟨b, o, none⟩, cap, by rw [hlen], ⟨by simp, kn_ints _⟩, .inr ⟨b, o, rfl, ?_⟩⟩
      rw [hlen]
      by_cases h0 : len = 0
      · exact .inl h0
      · right
        have fine : ∀ n : Int, Fine W.heap.size (vint n) := fun n => ⟨by simp [VOk], rfl, by simp [ren]⟩
        obtain ⟨c, hc1, hc2⟩ := absH_cell (hcell' 0 (by omega)) (fine _)
        refine ⟨c, false, 0, hc1, ?_⟩
        apply List.ext_getElem?
        intro i
        rw [Nat.mul_one]
        by_cases hi : i < len
        · obtain ⟨c', hc1', hc2'⟩ := absH_cell (hcell' i (by omega)) (fine _)
          rw [hc1] at hc1'
          cases hc1'
          rw [List.getElem?_take, if_pos hi, List.getElem?_drop, hc2']
          have hzi : i < zs.length := by omega
          simp [hi, hzi]
        · rw [List.getElem?_take, if_neg hi, List.getElem?_eq_none (by simp; omega)]
    · have hnf : ¬ fz ≤ cap := by omega
      simp [ren, renAddr, renCap, idEnv, hnf]
    · simp only [lits, List.length_map, List.length_take, List.length_drop]
      omega
end
theorem trodAll_cons {H : Type} {enc : TypeId × Value → H} {P : Program} {w : World} {base : Nat} {spare : Nat → Bool} {held : Bool} {t : TypeId} {ts : List TypeId} {vs : List Value} {ds : List (DataW H)} {ps : List MemPlace}
    (h : DataW.TrodAll enc P w base spare held (t :: ts) vs ds ps) : ∃ v vs' d ds' p q, vs = v :: vs' ∧ ds = d :: ds' ∧ ps = p ++ q ∧ DataW.Trod enc P w base spare held t v d p ∧ DataW.TrodAll enc P w base spare held ts vs' ds' q := by
  match vs, ds, h with
  | v :: vs, d :: ds, ⟨p, q, h1, h2, h3⟩ => exact ⟨v, vs, d, ds, p, q, rfl, rfl, h3, h1, h2⟩
theorem trodAll_nil {H : Type} {enc : TypeId × Value → H} {P : Program} {w : World} {base : Nat} {spare : Nat → Bool} {held : Bool} {vs : List Value} {ds : List (DataW H)} {ps : List MemPlace}
    (h : DataW.TrodAll enc P w base spare held [] vs ds ps) : vs = [] ∧ ds = [] ∧ ps = [] := by
  match vs, ds, h with
  | [], [], h => exact ⟨rfl, rfl, h⟩
theorem trodAll_mkc {H : Type} {enc : TypeId × Value → H} {P : Program} {w : World} {base : Nat} {spare : Nat → Bool} {held : Bool} {t : TypeId} {ts : List TypeId} {v : Value} {vs : List Value} {d : DataW H} {ds : List (DataW H)} {p q : List MemPlace}
    (h1 : DataW.Trod enc P w base spare held t v d p) (h2 : DataW.TrodAll enc P w base spare held ts vs ds q) : DataW.TrodAll enc P w base spare held (t :: ts) (v :: vs) (d :: ds) (p ++ q) := ⟨p, q, h1, h2, rfl⟩
section
variable {H : Type} {enc : TypeId × Value → H}
theorem fine_int {m : Nat} {n : Int} : Fine m (vint n) := ⟨by simp [VOk], rfl, by simp [ren]⟩
theorem trod_vint {W : World} {n : Nat} {cs : List Value} {r : DataW H × List MemPlace} {t : TypeId} (u : prog.underlying t = some (.int .i64)) (h : DataW.trod enc prog W 0 (fun _ => true) true n t cs = some r) : ∃ z, cs = [vint z] := by
  obtain ⟨z, h1, _⟩ := DataW.trod_int u h
  exact ⟨z, h1⟩
end
instance : Inhabited Dro := ⟨⟨0, 0⟩⟩
section
variable {H : Type} {enc : TypeId × Value → H} {W : World} {n base : Nat} {cs : List Value} {r : DataW H × List MemPlace}
def structOf : Option TypeDesc → Option (List (TypeId × Nat))
  | some (.struct fs) => some (fs.toList.map fun f => (f.type, f.offset))
  | _ => none
theorem trod_fields {t : TypeId} {l : List (TypeId × Nat)} (hs : structOf (prog.underlying t) = some l) (h : DataW.trod enc prog W 0 (fun _ => true) true n t cs = some r) :
    cs.length = prog.cellsOf t ∧ ∃ n' : Nat, ∀ (i : Nat) (ty : TypeId) (off : Nat), l[i]? = some (ty, off) → ∃ r', DataW.trod enc prog W 0 (fun _ => true) true n' ty ((cs.drop off).take (prog.cellsOf ty)) = some r' := by
  unfold structOf at hs
  split at hs
  · rename_i fs hu
    cases hs
    obtain ⟨xs, n', _, rfl, hl, hxl, hf⟩ := DataW.trod_struct hu h
    refine ⟨hl, n', fun i ty off hi => ?_⟩
    rw [List.getElem?_map, Option.map_eq_some_iff] at hi
    obtain ⟨f, hfi, he⟩ := hi
    cases he
    have hfi' : fs[i]? = some f := by simpa using hfi
    have hil : i < xs.length := by rw [hxl]; exact (Array.getElem?_eq_some_iff.1 hfi').1
    exact ⟨xs[i], by rw [hf i f hfi', List.getElem?_eq_getElem hil]⟩
  · cases hs
theorem lok_of : ∀ {l : List Value} {m : Nat}, (∀ v ∈ l, VOk m v) → LOk m l
  | [], _, _ => by simp [LOk]
  | v :: l, m, h => by
    simp only [LOk]
    exact ⟨h v (by simp), lok_of fun u hu => h u (by simp [hu])⟩
theorem argOk_agg {l : List Value} (h : ∀ v ∈ l, ArgOk W v) : ArgOk W (.agg ⟨l⟩) := by
  refine ⟨?_, ?_⟩
  · simp only [VOk, AOk]
    exact lok_of fun v hv => (h v hv).1
  · simp only [ren, renA, renL_eq]
    congr 2
    rw [List.map_congr_left (g := id) fun v hv => (h v hv).2, List.map_id]
theorem argOk_fine {v : Value} (h : ∀ m, Fine m v) : ArgOk W v := ⟨(h _).1, (h 0).2.2⟩
theorem agg_of {t : TypeId} {l : List (TypeId × Nat)} {v : Value} (hs : structOf (prog.underlying t) = some l) (hval : Value.okWide prog W .any base t v) : ∃ cs, v = .agg cs ∧ Row.okWide prog W .any base t cs := by
  unfold structOf at hs
  split at hs
  · rename_i fs hu
    simp only [Value.okWide, hu] at hval
    obtain ⟨cs, h1, _, h3⟩ := hval
    exact ⟨cs, h1, h3⟩
  · cases hs
end
theorem law_run1S {g : FuncId} {fn : Func} {c : Code} (hf : prog.funcs[g]? = some fn) (hb : fn.body = some c) (hin : prog.inits.idxOf? g = none) (W₀ : World) (args : List Value) (ha : args.length ≤ fn.ntmps) (hok : ∀ v ∈ args, ArgOk W₀ v)
    (walk : ∀ Post, Sem (J1 prog W₀ Post) fn.ntmps (absH W₀).length g c ⟨regs args, []⟩ (absH W₀) (RetQ prog fn.results.toList (absH W₀).length fun v _ => v = .bool true)) :
    Ends prog (fun v w' => v = .bool true ∧ Below W₀.heap.size W₀ w') (solo (G (Frame.enter prog g ⟨args⟩ .normal) []) W₀) #[] := by
  refine run_of_J1 (W0 := W₀) (ft := startFt W₀) (top_of_sem hf hb hin ha rfl (fun i => ?_) (start_rel W₀) (walk _) ?_) (fun b hb => hb) (fun b hb => hb.elim) rfl
  · show VRel (absH W₀).length idEnv (args.getD i unk) (args.getD i undef)
    simp only [List.getD_eq_getElem?_getD]
    cases hi : args[i]? with
    | none => exact .inl rfl
    | some v =>
      obtain ⟨h1, h2⟩ := hok v (List.mem_of_getElem? hi)
      exact .inr ⟨by rw [absH_len]; exact h1, h2.symm⟩
  · intro v h' ρ' w' ft' cv hv H' _ _ hcv hB
    subst hv
    refine ⟨?_, below_of H' hB⟩
    rcases hcv with e | ⟨_, e⟩
    · cases e
    · rw [e]
      rfl
section
variable {H : Type} {enc : TypeId × Value → H} {W : World} {base : Nat}
theorem arg_recs {t : TypeId} {m : Nat} (hs : structOf (prog.underlying t) = some ((List.range m).map fun i => (3, i))) (hc : prog.cellsOf t = m) {v : Value} {d : DataW H} {ps : List MemPlace}
    (hval : Value.okWide prog W .any base t v) (hd : DataW.Trod enc prog W 0 (fun _ => true) true t v d ps) : ∃ zs : List Int, zs.length = m ∧ v = .agg ⟨zs.map vint⟩ ∧ ArgOk W v := by
  have u3 : prog.underlying 3 = some (.int .i64) := by kernel_rfl
  have c3 : prog.cellsOf 3 = 1 := by kernel_rfl
  obtain ⟨cs, rfl, _⟩ := agg_of hs hval
  obtain ⟨cs⟩ := cs
  obtain ⟨fuel, hf⟩ := hd
  obtain ⟨hl, n', hf⟩ := trod_fields (cs := cs) hs hf
  rw [hc] at hl
  have hz : ∀ i, i < m → ∃ z, cs[i]? = some (vint z) := fun i hi => by
    obtain ⟨r', g⟩ := hf i 3 i (by rw [List.getElem?_map, List.getElem?_range hi]; rfl)
    rw [c3] at g
    obtain ⟨z, hz⟩ := trod_vint u3 g
    refine ⟨z, ?_⟩
    have := congrArg (fun l => l[0]?) hz
    simpa [List.getElem?_take, List.getElem?_drop] using this
  have hall : ∀ v ∈ cs, ∃ z, v = vint z := fun v hv => by
    obtain ⟨i, hi, rfl⟩ := List.getElem_of_mem hv
    obtain ⟨z, e⟩ := hz i (by omega)
    rw [List.getElem?_eq_getElem hi] at e
    exact ⟨z, Option.some.inj e⟩
  have key : ∀ (l : List Value), (∀ v ∈ l, ∃ z, v = vint z) → ∃ zs : List Int, l = zs.map vint := by
    intro l
    induction l with
    | nil => exact fun _ => ⟨[], rfl⟩
    | cons v l ih =>
      intro h
      obtain ⟨z, rfl⟩ := h v (by simp)
      obtain ⟨zs, e⟩ := ih fun u hu => h u (by simp [hu])
      exact ⟨z :: zs, by rw [e]; rfl⟩
  obtain ⟨zs, rfl⟩ := key cs hall
  refine ⟨zs, by simpa using hl, rfl, argOk_agg fun v hv => ?_⟩
  obtain ⟨z, rfl⟩ := hall v hv
  exact argOk_fine fun m => fine_int
theorem arg_wel {v : Value} {d : DataW H} {ps : List MemPlace} (hval : Value.okWide prog W .any base 23 v) (hd : DataW.Trod enc prog W 0 (fun _ => true) true 23 v d ps) : ∃ w : Wel, v = .agg ⟨w.cells⟩ ∧ ArgOk W v := by
  obtain ⟨zs, hl, rfl, ok⟩ := arg_recs (m := 3) (by kernel_rfl) (by kernel_rfl) hval hd
  match zs, hl with
  | [a, b, c], _ => exact ⟨⟨a, b, c⟩, rfl, ok⟩
theorem arg_pas {v : Value} {d : DataW H} {ps : List MemPlace} (hval : Value.okWide prog W .any base 46 v) (hd : DataW.Trod enc prog W 0 (fun _ => true) true 46 v d ps) : ∃ w : Pas, v = .agg ⟨w.cells⟩ ∧ ArgOk W v := by
  obtain ⟨zs, hl, rfl, ok⟩ := arg_recs (m := 6) (by kernel_rfl) (by kernel_rfl) hval hd
  match zs, hl with
  | [a, b, c, d, e, f], _ => exact ⟨⟨a, b, c, d, e, f⟩, rfl, ok⟩
theorem arg_skyr {v : Value} {d : DataW H} {ps : List MemPlace} (hval : Value.okWide prog W .any base 48 v) (hd : DataW.Trod enc prog W 0 (fun _ => true) true 48 v d ps) : ∃ w : SkyR, v = .agg ⟨w.cells⟩ ∧ ArgOk W v := by
  obtain ⟨zs, hl, rfl, ok⟩ := arg_recs (m := 3) (by kernel_rfl) (by kernel_rfl) hval hd
  match zs, hl with
  | [a, b, c], _ => exact ⟨⟨a, b, c⟩, rfl, ok⟩
end
theorem lifted4 (os : Os) (started : os.Started) (H : Type) (enc : TypeId × Value → H) :
    ReturnsInLeavingWide {} checked os 4 .any (Rows.wellBearsSpec.pre6 enc prog f4 Rows.wellBearsRow.domain false) (Rows.wellBearsSpec.post enc prog f4 false true false false) := by
  refine returnsInLeavingWide_of_change_sized (C := checked) own started at4
    (ChangeSpec.witness6 (enc := enc) (C := checked) false ⟨#[], #[.agg #[.int .i64 0, .int .i64 0, .int .i64 0], .agg #[.int .i64 0, .int .i64 0, .int .i64 0, .int .i64 0, .int .i64 0, .int .i64 0], .agg #[.int .i64 0, .int .i64 0, .int .i64 0], .int .i64 0, .int .i64 0, .slice none 0 0], []⟩ 8 (by kernel_rfl) (by kernel_rfl) (by kernel_rfl) (by kernel_rfl)) ?_
  intro W base args ds gs before hval0 hW _ hsz0 _
  have hsz : (DataW.weightsEach prog (f4.params.toList ++ Rows.wellBearsSpec.plain.varTypes prog) (ds ++ gs)).all (· ≤ reachBytes) = true := hsz0
  clear hsz0
  have hval : ∀ (j : Nat) t v, f4.params[j]? = some t → args[j]? = some v → Value.okWide prog W .any base t v := hval0
  have hW' := hW
  obtain ⟨p, q, hA0, hV, rfl, _, _⟩ := hW
  have hA : DataW.TrodAll enc prog W 0 (fun _ => true) true f4.params.toList args.toList ds p := hA0
  have hps : f4.params = #[23, 46, 48, 3, 3, 27] := by kernel_rfl
  rw [hps] at hA hval hsz
  obtain ⟨args⟩ := args
  have r0 : DataW.TrodAll enc prog W 0 (fun _ => true) true [23, 46, 48, 3, 3, 27] args ds p := hA
  obtain ⟨v0, vs0, d0, ds0, p0, q0, hv0, hd0, hp0, h0, r1⟩ := trodAll_cons r0
  obtain ⟨v1, vs1, d1, ds1, p1, q1, hv1, hd1, hp1, h1, r2⟩ := trodAll_cons r1
  obtain ⟨v2, vs2, d2, ds2, p2, q2, hv2, hd2, hp2, h2, r3⟩ := trodAll_cons r2
  obtain ⟨v3, vs3, d3, ds3, p3, q3, hv3, hd3, hp3, h3, r4⟩ := trodAll_cons r3
  obtain ⟨v4, vs4, d4, ds4, p4, q4, hv4, hd4, hp4, h4, r5⟩ := trodAll_cons r4
  obtain ⟨v5, vs5, d5, ds5, p5, q5, hv5, hd5, hp5, h5, r6⟩ := trodAll_cons r5
  obtain ⟨hvn, hdn, hpn⟩ := trodAll_nil r6
  subst hvn hdn hpn
  subst hv5 hd5 hp5
  subst hv4 hd4 hp4
  subst hv3 hd3 hp3
  subst hv2 hd2 hp2
  subst hv1 hd1 hp1
  subst hv0 hd0 hp0
  obtain ⟨rfl, rfl⟩ := trodVars_none hV
  have u3 : prog.underlying 3 = some (.int .i64) := by kernel_rfl
  have u27 : prog.underlying 27 = some (.slice 3) := by kernel_rfl
  have u4 : prog.underlying 4 = some .bool := by kernel_rfl
  have c3 : prog.cellsOf 3 = 1 := by kernel_rfl
  have b3 : prog.bytesOf 3 = 8 := by kernel_rfl
  have hlt : ∀ x ∈ p0 ++ (p1 ++ (p2 ++ (p3 ++ (p4 ++ (p5 ++ []))))), x.block < W.heap.size := fun x hx => by simpa using hW'.lt x (by simpa using hx)
  have hargs : ∀ (W' : World), Below W.heap.size W W' → DataW.TrodAll enc prog W' 0 (fun b => decide (b < W.heap.size)) true [23, 46, 48, 3, 3, 27] [v0, v1, v2, v3, v4, v5] [d0, d1, d2, d3, d4, d5] (p0 ++ (p1 ++ (p2 ++ (p3 ++ (p4 ++ (p5 ++ [])))))) := fun W' hn =>
    trodAll_mkc (Below.trod laidOut (by kernel_rfl) (of_decide_eq_true (by kernel_rfl)) h0 hn fun x hx => hlt x (by simp [hx])) (trodAll_mkc (Below.trod laidOut (by kernel_rfl) (of_decide_eq_true (by kernel_rfl)) h1 hn fun x hx => hlt x (by simp [hx])) (trodAll_mkc (Below.trod laidOut (by kernel_rfl) (of_decide_eq_true (by kernel_rfl)) h2 hn fun x hx => hlt x (by simp [hx])) (trodAll_mkc (Below.trod laidOut (by kernel_rfl) (of_decide_eq_true (by kernel_rfl)) h3 hn fun x hx => hlt x (by simp [hx])) (trodAll_mkc (Below.trod laidOut (by kernel_rfl) (of_decide_eq_true (by kernel_rfl)) h4 hn fun x hx => hlt x (by simp [hx])) (trodAll_mkc (Below.trod laidOut (by kernel_rfl) (of_decide_eq_true (by kernel_rfl)) h5 hn fun x hx => hlt x (by simp [hx])) (rfl))))))
  obtain ⟨w0, rfl, ok0⟩ := arg_wel (hval 0 23 v0 rfl rfl) h0
  obtain ⟨w1, rfl, ok1⟩ := arg_pas (hval 1 46 v1 rfl rfl) h1
  obtain ⟨w2, rfl, ok2⟩ := arg_skyr (hval 2 48 v2 rfl rfl) h2
  obtain ⟨z3, rfl, _, _, _⟩ := open_int u3 (hval 3 3 v3 rfl rfl) h3
  obtain ⟨z4, rfl, _, _, _⟩ := open_int u3 (hval 4 3 v4 rfl rfl) h4
  obtain ⟨ns5, sn5, ok5, hbig5⟩ := arg_ints u27 u3 c3 (hval 5 27 v5 rfl rfl) h5
  have hln5 : ns5.length < 4611686018427387904 := by
    rcases hbig5 with rfl | ⟨es, sp, rfl, hle⟩
    · simp
    · have := sized_slice hsz (j := 5) (t := 27) (e := 3) rfl rfl u27
      rw [b3] at this
      simp only [reachBytes] at this
      omega
  obtain ⟨M, last, o, w', t', r1, r2, r3, r4⟩ := law_run1S (g := 4) (fn := f4) at4 body4 (by kernel_rfl) W [.agg ⟨Wel.cells w0⟩, .agg ⟨Pas.cells w1⟩, .agg ⟨SkyR.cells w2⟩, vint z3, vint z4, v5] (Nat.le_of_ble_eq_true (by kernel_rfl : Nat.ble 6 f4.ntmps = true))
    (by
      intro v hv
      simp only [List.mem_cons, List.not_mem_nil, or_false] at hv
      rcases hv with rfl | rfl | rfl | rfl | rfl | rfl
      · exact ok0
      · exact ok1
      · exact ok2
      · exact argOk_int
      · exact argOk_int
      · exact ok5)
    (fun Post => walk4 (K := fun v _ => v = .bool true) sn5 hln5 fun _ => rfl)
  refine ⟨M, last, o, w', t', r1, r2, r3, r4.mono fun v hF => ?_⟩
  obtain ⟨rfl, hbelow⟩ := hF
  refine ⟨_, _, _, [], _, [], hW', ?_, hargs _ hbelow, by rfl, hbelow.frame _, fun h => by cases h⟩
  exact trodAll_mk1 (shut_bool u4 true)
theorem wellBears_holds : Rows.WellBearsSaid :=
  OpenClaim.holds_of_wide_leaving 4 f4 rfl rfl rfl rfl rfl rfl rfl ⟨rfl, rfl, rfl, rfl, rfl⟩ rfl rfl rfl rfl rfl (by kernel_rfl) at4 (by kernel_rfl)
    (of_decide_eq_true (by kernel_rfl)) (by unfold Func.isWrapper; first | (rw [if_pos (by decide +kernel)]; kernel_rfl) | (rw [if_neg (by decide +kernel)]; exact ⟨rfl, rfl⟩))
    (fun os started H enc _ => lifted4 os started H enc)
#print axioms wellBears_holds
end Go.Proofs.Ytindillghipjjaa
