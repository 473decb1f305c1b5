/- GrassReady answers true at every input, and its argument reads behind the call as it read before. No conditions. -/
import Derived.Test.YthnccaajpdnndaaK3
import Derived.Test.YthnccaajpdnndaaK2
import Derived.Test.YthnccaajpdnndaaK6
import Derived.Test.YthnccaajpdnndaaK5
namespace Go.Proofs.Ythnccaajpdnndaa
open Go.Conc Go.Proofs.Try
set_option maxRecDepth 100000
set_option maxHeartbeats 4000000
set_option linter.unusedVariables false
section
variable {main : Bool} {J : JT} {n0 : Nat} {h : List AObj} {K : Value → List AObj → Prop}
theorem at19 : prog.funcs[19]? = some f19 := by kernel_rfl
theorem body19 : f19.body = some (codeOf f19) := by kernel_rfl
def pl19 : Plans := [(3, false, .take 0 (.take 2 (.take 3 (.take 4 (.take 6 (.take 7 (.take 8 (.take 9 (.last 1 true (.last 5 true (.last 10 true (.take 11 (.take 12 (.take 13 (.fin)))))))))))))))]
def ct19 : Cuts := .bin (.go) (.bin (.go) (.bin (.go) (.bin (.go) (.bin (.go) (.bin (.bin (.go) (.cut (.go))) (.bin (.bin (.go) (.un (.un (.bin (.go) (.bin (.un (.bin (.go) (.bin (.go) (.cut (.go))))) (.go)))))) (.go)))))))
theorem pok19 : plansOk prog pl19 (codeOf f19) = true := by kernel_rfl
theorem e19 {a0 : Value} : W prog J 95 h.length 19 (codeOf f19) (RG.mk (regs [a0]) []) h (RetQ prog [.tmp 2] h.length K) =
(Good prog J 22 [a0] h fun v1 h2 =>
 Good prog J 24 [v1] h2 fun v3 h4 =>
 Good prog J 25 [v1, (vint 6)] h4 fun v5 h6 =>
 aAlloc [(vint 0), (vint 0), (vint 0), (vint 0), (vint 0), (vint 0)] h6 fun v7 h8 =>
 aAlloc [(vint 0), (vint 0), (vint 0)] h8 fun v9 h10 =>
 aStore 6 v7 v3 h10 fun h11 =>
 aStore 3 v9 v5 h11 fun h12 =>
(∃ B, aOff v9 0 fun v13 =>
 aLoad false 1 v13 h12 fun v14 =>
 RdOk (some B) (ptrBlk v13) ∧ (aOff v9 0 fun v15 =>
 aLoad false 1 v15 h12 fun v16 =>
 RdOk (some B) (ptrBlk v15) ∧ (aBin prog .sub 3 v16 (vint 1) fun v17 =>
 Good prog J 26 [v1, (vint 20)] h12 fun v18 h19 =>
 SameB (some B) h12 h19 ∧ (Good prog J 23 [v1, (vint 1), v14] h19 fun v20 h21 =>
 SameB (some B) h12 h21 ∧ (Good prog J 26 [v1, v17] h21 fun v22 h23 =>
 SameB (some B) h12 h23 ∧ (aLoad true 6 v7 h23 fun v24 =>
 aLoad true 3 v9 h23 fun v25 =>
 Good prog J 65 [v24, v25, v18, v20, v22] h23 fun v26 h27 =>
 aExt v26 0 fun v28 =>
 aExt v26 1 fun v29 =>
 aBin prog .neq 37 v29 (vint 0) fun v30 =>
 cnd v30
(aBin prog .neq 37 v29 (vint 11) fun v31 =>
 Hold (W prog J 95 h.length 19 (subC [1, 1, 1, 1, 1, 0, 1] (codeOf f19)) (RG.p (RG.p (RG.p (RG.p (RG.p (RG.p (RG.p (RG.p (RG.p (RG.p (RG.p (RG.p (RG.p (RG.p (RG.p (RG.p (RG.p (RG.p (RG.p (RG.p (RG.p (RG.p (RG.p (RG.p (RG.p (RG.p (RG.p (RG.p (RG.p (RG.p (RG.p (RG.p (RG.p (RG.p (RG.p (RG.p (RG.p (RG.p (RG.p (RG.p (RG.p (RG.p (RG.mk (regs [a0]) []) 2 (Value.bool false)) 14 a0) 15 v1) 3 v1) 16 v1) 17 v3) 18 v1) 19 v5) 4 v7) 5 v9) 20 v1) 22 v1) 23 v13) 24 v14) 26 v1) 27 v15) 28 v16) 29 v17) 21 v18) 25 v20) 30 v22) 6 v18) 7 v20) 8 v22) 32 v24) 33 v25) 34 v18) 35 v20) 36 v22) 37 v26) 31 v26) 38 v28) 39 v29) 9 v28) 10 v29) 40 v29) 41 v30) 42 v30) 42 (Value.bool true)) 43 v29) 44 v31) 45 v31) h27 (contX pl19 prog J 95 h.length 19 ct19 [1, 1, 1, 1, 1, 0, 1] (codeOf f19) [] (RetQ prog [.tmp 2] h.length K))))
(Hold (W prog J 95 h.length 19 (subC [1, 1, 1, 1, 1, 0, 1] (codeOf f19)) (RG.p (RG.p (RG.p (RG.p (RG.p (RG.p (RG.p (RG.p (RG.p (RG.p (RG.p (RG.p (RG.p (RG.p (RG.p (RG.p (RG.p (RG.p (RG.p (RG.p (RG.p (RG.p (RG.p (RG.p (RG.p (RG.p (RG.p (RG.p (RG.p (RG.p (RG.p (RG.p (RG.p (RG.p (RG.p (RG.p (RG.p (RG.p (RG.p (RG.p (RG.p (RG.p (RG.mk (regs [a0]) []) 2 (Value.bool false)) 14 a0) 15 v1) 3 v1) 16 v1) 17 v3) 18 v1) 19 v5) 4 v7) 5 v9) 20 v1) 22 v1) 23 v13) 24 v14) 26 v1) 27 v15) 28 v16) 29 v17) 21 v18) 25 v20) 30 v22) 6 v18) 7 v20) 8 v22) 32 v24) 33 v25) 34 v18) 35 v20) 36 v22) 37 v26) 31 v26) 38 v28) 39 v29) 9 v28) 10 v29) 40 v29) 41 v30) 42 v30) 42 (Value.bool false)) 43 undef) 44 undef) 45 (Value.bool false)) h27 (contX pl19 prog J 95 h.length 19 ct19 [1, 1, 1, 1, 1, 0, 1] (codeOf f19) [] (RetQ prog [.tmp 2] h.length K))))))))))) := top_eq pok19 ct19 (by kernel_rfl)
theorem s19_1 {f : RG} : W prog J 95 n0 19 (subC [1, 1, 1, 1, 1, 0, 1] (codeOf f19)) f h (contX pl19 prog J 95 n0 19 ct19 [1, 1, 1, 1, 1, 0, 1] (codeOf f19) [] (RetQ prog [.tmp 2] n0 K)) =
(cnd (f.r 45)
(retL n0 K f.ds [(Value.bool false)] h)
(Sem J 95 n0 19 (subC [1, 1, 1, 1, 1, 1, 0, 1, 0] (codeOf f19)) (RG.p (RG.p f 46 (f.r 8)) 11 (f.r 8)) h (contX pl19 prog J 95 n0 19 ct19 [1, 1, 1, 1, 1, 1, 0, 1, 0] (codeOf f19) [] (RetQ prog [.tmp 2] n0 K)))) := sub_eq pok19 ct19 (by kernel_rfl)
theorem s19_2 {f : RG} {nx0 : RG → List AObj → Prop} : W prog J 95 n0 19 (subC [1, 1, 1, 1, 1, 1, 0, 1, 0, 0] (codeOf f19)) f h (thenK nx0 (contX pl19 prog J 95 n0 19 ct19 [1, 1, 1, 1, 1, 1, 0, 1, 0] (codeOf f19) [] (RetQ prog [.tmp 2] n0 K))) =
(aBin prog .add 3 (f.r 11) (f.r 7) fun v1 =>
 aOff (f.r 5) 0 fun v2 =>
 aLoad false 1 v2 h fun v3 =>
 aBin prog .leq 3 v1 v3 fun v4 =>
 cnd v4
(aLoad true 6 (f.r 4) h fun v5 =>
 aLoad true 3 (f.r 5) h fun v6 =>
 Good prog J 54 [v5, v6, (f.r 6), (f.r 11), (f.r 7)] h fun v7 h8 =>
 aExt v7 0 fun v9 =>
 aExt v7 1 fun v10 =>
 aUn .not v10 fun v11 =>
 cnd v11
(Hold (W prog J 95 n0 19 (subC [1, 1, 1, 1, 1, 1, 0, 1, 0, 0, 1, 0, 0, 1, 1] (codeOf f19)) (RG.p (RG.p (RG.p (RG.p (RG.p (RG.p (RG.p (RG.p (RG.p (RG.p (RG.p (RG.p (RG.p (RG.p (RG.p (RG.p (RG.p (RG.p (RG.p (RG.p (RG.p (RG.p (RG.p (RG.p (RG.p (RG.p (RG.p (RG.p (RG.p (RG.p (RG.p f 47 (f.r 11)) 48 (f.r 7)) 49 v1) 50 v2) 51 v3) 52 v4) 56 v5) 57 v6) 58 (f.r 6)) 59 (f.r 11)) 60 (f.r 7)) 61 v7) 55 v7) 62 v9) 63 v10) 12 v9) 13 v10) 64 v10) 65 v11) 66 v11) 66 (Value.bool true)) 67 undef) 68 undef) 69 undef) 70 undef) 71 undef) 72 undef) 73 undef) 74 undef) 75 undef) 76 (Value.bool true)) h8 (contX pl19 prog J 95 n0 19 ct19 [1, 1, 1, 1, 1, 1, 0, 1, 0, 0, 1, 0, 0, 1, 1] (codeOf f19) [nx0] (RetQ prog [.tmp 2] n0 K))))
(aBin prog .eql 37 (f.r 10) (vint 0) fun v12 =>
 cnd v12
(aBin prog .geq 3 (f.r 11) (f.r 9) fun v13 =>
 aBin prog .neq 4 v9 v13 fun v14 =>
 Hold (W prog J 95 n0 19 (subC [1, 1, 1, 1, 1, 1, 0, 1, 0, 0, 1, 0, 0, 1, 1] (codeOf f19)) (RG.p (RG.p (RG.p (RG.p (RG.p (RG.p (RG.p (RG.p (RG.p (RG.p (RG.p (RG.p (RG.p (RG.p (RG.p (RG.p (RG.p (RG.p (RG.p (RG.p (RG.p (RG.p (RG.p (RG.p (RG.p (RG.p (RG.p (RG.p (RG.p (RG.p (RG.p (RG.p f 47 (f.r 11)) 48 (f.r 7)) 49 v1) 50 v2) 51 v3) 52 v4) 56 v5) 57 v6) 58 (f.r 6)) 59 (f.r 11)) 60 (f.r 7)) 61 v7) 55 v7) 62 v9) 63 v10) 12 v9) 13 v10) 64 v10) 65 v11) 66 v11) 66 (Value.bool false)) 67 v9) 68 (f.r 10)) 69 v12) 70 v12) 70 (Value.bool true)) 71 (f.r 11)) 72 (f.r 9)) 73 v13) 74 v13) 75 v14) 76 v14) h8 (contX pl19 prog J 95 n0 19 ct19 [1, 1, 1, 1, 1, 1, 0, 1, 0, 0, 1, 0, 0, 1, 1] (codeOf f19) [nx0] (RetQ prog [.tmp 2] n0 K))))
(aBin prog .neq 4 v9 (Value.bool false) fun v15 =>
 Hold (W prog J 95 n0 19 (subC [1, 1, 1, 1, 1, 1, 0, 1, 0, 0, 1, 0, 0, 1, 1] (codeOf f19)) (RG.p (RG.p (RG.p (RG.p (RG.p (RG.p (RG.p (RG.p (RG.p (RG.p (RG.p (RG.p (RG.p (RG.p (RG.p (RG.p (RG.p (RG.p (RG.p (RG.p (RG.p (RG.p (RG.p (RG.p (RG.p (RG.p (RG.p (RG.p (RG.p (RG.p (RG.p (RG.p f 47 (f.r 11)) 48 (f.r 7)) 49 v1) 50 v2) 51 v3) 52 v4) 56 v5) 57 v6) 58 (f.r 6)) 59 (f.r 11)) 60 (f.r 7)) 61 v7) 55 v7) 62 v9) 63 v10) 12 v9) 13 v10) 64 v10) 65 v11) 66 v11) 66 (Value.bool false)) 67 v9) 68 (f.r 10)) 69 v12) 70 v12) 70 (Value.bool false)) 71 undef) 72 undef) 73 undef) 74 (Value.bool false)) 75 v15) 76 v15) h8 (contX pl19 prog J 95 n0 19 ct19 [1, 1, 1, 1, 1, 1, 0, 1, 0, 0, 1, 0, 0, 1, 1] (codeOf f19) [nx0] (RetQ prog [.tmp 2] n0 K))))))
(aBin prog .neq 37 (f.r 10) (vint 0) fun v16 =>
 cnd v16
(Good prog J 21 [] h fun v17 h18 =>
 retL n0 K f.ds [v17] h18)
(aBin prog .geq 3 (f.r 9) (f.r 8) fun v19 =>
 cnd v19
(aBin prog .add 3 (f.r 9) (f.r 7) fun v20 =>
 aOff (f.r 5) 0 fun v21 =>
 aLoad false 1 v21 h fun v22 =>
 aBin prog .leq 3 v20 v22 fun v23 =>
 cnd v23
(Good prog J 21 [] h fun v24 h25 =>
 retL n0 K f.ds [v24] h25)
(retL n0 K f.ds [(Value.bool false)] h))
(retL n0 K f.ds [(Value.bool false)] h)))) := sub_eq pok19 ct19 (by kernel_rfl)
theorem l19_2 (hJ : Closed prog main J) {S : Type} (μ : S → Nat) (I : S → RG → List AObj → Prop) (hI : ∀ s f h, I s f h → heapOk h → n0 ≤ h.length → W prog J 95 n0 19 (subC [1, 1, 1, 1, 1, 1, 0, 1, 0, 0] (codeOf f19)) f h (thenK (Nx n0 μ I s) (contX pl19 prog J 95 n0 19 ct19 [1, 1, 1, 1, 1, 1, 0, 1, 0] (codeOf f19) [] (RetQ prog [.tmp 2] n0 K))))
  {s : S} {f : RG} (hi : Gets n0 I s f h) : Sem J 95 n0 19 (subC [1, 1, 1, 1, 1, 1, 0, 1, 0] (codeOf f19)) f h (contX pl19 prog J 95 n0 19 ct19 [1, 1, 1, 1, 1, 1, 0, 1, 0] (codeOf f19) [] (RetQ prog [.tmp 2] n0 K)) :=
  loop_rule hJ mixed (b := subC [1, 1, 1, 1, 1, 1, 0, 1, 0, 0] (codeOf f19)) (by kernel_rfl) μ I hI hi
theorem s19_3 {f : RG} {nx0 : RG → List AObj → Prop} : W prog J 95 n0 19 (subC [1, 1, 1, 1, 1, 1, 0, 1, 0, 0, 1, 0, 0, 1, 1] (codeOf f19)) f h (contX pl19 prog J 95 n0 19 ct19 [1, 1, 1, 1, 1, 1, 0, 1, 0, 0, 1, 0, 0, 1, 1] (codeOf f19) [nx0] (RetQ prog [.tmp 2] n0 K)) =
(cnd (f.r 76)
(retL n0 K f.ds [(Value.bool false)] h)
(aBin prog .add 3 (f.r 11) (vint 1) fun v1 =>
 nx0 (RG.p (RG.p (RG.p f 53 (f.r 11)) 54 v1) 11 v1) h)) := sub_eq pok19 ct19 (by kernel_rfl)
end
end Go.Proofs.Ythnccaajpdnndaa
namespace Go.Proofs.Ythnccaajpdnndaa
open Go.Conc Go.Proofs.Try
set_option maxRecDepth 100000
theorem ckd_stay {p : Pas} {s : SkyR} {n : Int} {a fr dy : Nat} (f : pasOk p) (g : skyOk s) (hn : 0 ≤ n ∧ n ≤ 40) (ha : s.days = (a : Int)) : ckdE p (stayH a fr dy n) s = 0 := by
  unfold ckdE fst2 pasE skyE
  rw [if_pos f, if_pos g, if_neg (by decide)]
  unfold hunE
  have h1 : cntE ((stayH a fr dy n).length : Nat) s.days s.days = 0 := by
    rw [stayH_len]
    unfold cntE
    rw [if_neg (by omega), if_neg (by omega)]
  have hq : ∀ k ∈ stayH a fr dy n, 0 ≤ k ∧ k ≤ 40 := stayH_ok hn
  rw [if_neg (by rw [h1]; decide), if_pos hq]
theorem feed_stay {p : Pas} {s : SkyR} {n : Int} {a fr dy : Nat} (f : pasOk p) (g : skyOk s) (hn : 0 ≤ n ∧ n ≤ 40) (ha : s.days = (a : Int)) : decide (feedN p (stayH a fr dy n) s = 1) = stayB p s n fr dy := by
  have h0 := ckd_stay (p := p) (fr := fr) (dy := dy) f g hn ha
  have e : stayB p s n (fr : Nat) (dy : Nat) = fedB p (stayH a fr dy n) s := by
    unfold stayB
    rw [ha]
    rfl
  rw [e]
  unfold feedN
  rw [if_neg (by omega)]
  cases fedB p (stayH a fr dy n) s with
  | true => rfl
  | false =>
    rw [if_neg (by decide)]
    split <;> rfl
def flipB (b : UInt8) : UInt8 := if b = 119 then 100 else 119
theorem flipB_ne (b : UInt8) : b ≠ flipB b := by
  unfold flipB
  split
  · rename_i h
    rw [h]
    decide
  · assumption
theorem flipB_ok (b : UInt8) : flipB b = 100 ∨ flipB b = 119 := by
  unfold flipB
  split
  · exact .inl rfl
  · exact .inr rfl
def tailB (w : List UInt8) : List UInt8 := w.tail ++ [flipB (w.tail.getLast?.getD 0)]
theorem strsB_mem : ∀ {n : Nat} {u : List UInt8}, u.length = n → (∀ c ∈ u, c = 100 ∨ c = 119) → u ∈ strsB n
  | 0, u, h, _ => by
    rw [List.length_eq_zero_iff] at h
    subst h
    exact List.mem_singleton.2 rfl
  | n + 1, [], h, _ => by simp at h
  | n + 1, c :: u, h, hc => by
    have := strsB_mem (n := n) (u := u) (by simpa using h) fun d hd => hc d (List.mem_cons_of_mem _ hd)
    unfold strsB
    rw [List.mem_append]
    rcases hc c (List.mem_cons_self ..) with rfl | rfl
    · exact .inl (List.mem_map.2 ⟨u, this, rfl⟩)
    · exact .inr (List.mem_map.2 ⟨u, this, rfl⟩)
theorem rainsB_mem {s : SkyR} {w : List UInt8} : w ∈ rainsB s ↔ w.length = s.days.toNat ∧ (∀ c ∈ w, c = 100 ∨ c = 119) ∧ fallX s (0, 0) w = true := by
  rw [rainsB_strs, List.mem_filter]
  constructor
  · rintro ⟨h1, h2⟩
    obtain ⟨h3, h4⟩ := strsB_len w h1
    exact ⟨h3, h4, h2⟩
  · rintro ⟨h1, h2, h3⟩
    exact ⟨strsB_mem h1 h2, h3⟩
theorem fallX_under {s : SkyR} : ∀ {u : List UInt8} {x x' : Spl}, (∀ c ∈ u, c = 100 ∨ c = 119) → (x'.1 = 0 ∨ (x'.1 = x.1 ∧ x'.2 ≤ x.2)) → 0 ≤ x.2 → fallX s x u = true → fallX s x' u = true
  | [], _, _, _, _, _, _ => rfl
  | c :: u, x, x', hc, hx, h0, h => by
    have h : (nextOk s x c && fallX s (nextX x c) u) = true := h
    show (nextOk s x' c && fallX s (nextX x' c) u) = true
    rw [Bool.and_eq_true] at *
    have c0 : c ≠ 0 := by rcases hc c (List.mem_cons_self ..) with h | h <;> rw [h] <;> decide
    refine ⟨?_, fallX_under (x := nextX x c) (fun d hd => hc d (List.mem_cons_of_mem _ hd)) ?_ ?_ h.2⟩
    · have h1 := h.1
      unfold nextOk at *
      by_cases e : x'.1 ≠ c
      · rw [if_pos e]
      · have e := Classical.not_not.1 e
        rw [if_neg (not_not_intro e)]
        rcases hx with hx | ⟨hx, hle⟩
        · exact absurd (e.symm.trans hx) c0
        · rw [if_neg (not_not_intro (hx.symm.trans e)), decide_eq_true_iff] at h1
          rw [decide_eq_true_iff]
          omega
    · right
      unfold nextX
      by_cases e : x'.1 ≠ c
      · rw [if_pos e]
        split
        · exact ⟨rfl, Int.le_refl _⟩
        · exact ⟨rfl, by dsimp only; omega⟩
      · have e := Classical.not_not.1 e
        rcases hx with hx | ⟨hx, hle⟩
        · exact absurd (e.symm.trans hx) c0
        · rw [if_neg (not_not_intro e), if_neg (not_not_intro (hx.symm.trans e))]
          exact ⟨rfl, by dsimp only; omega⟩
    · unfold nextX
      split <;> dsimp only <;> omega
theorem fallX_snoc {s : SkyR} : ∀ {u : List UInt8} {x : Spl} {c : UInt8}, u.getLast?.getD x.1 ≠ c → fallX s x u = true → fallX s x (u ++ [c]) = true
  | [], x, c, hc, _ => by
    show (nextOk s x c && fallX s (nextX x c) []) = true
    unfold nextOk
    rw [if_pos (show x.1 ≠ c from hc)]
    rfl
  | d :: u, x, c, hc, h => by
    have h : (nextOk s x d && fallX s (nextX x d) u) = true := h
    show (nextOk s x d && fallX s (nextX x d) (u ++ [c])) = true
    rw [Bool.and_eq_true] at *
    refine ⟨h.1, fallX_snoc ?_ h.2⟩
    have e : (nextX x d).1 = d := by unfold nextX; split <;> rfl
    rw [e]
    rw [List.getLast?_cons] at hc
    exact hc
theorem tail_rain {s : SkyR} {w : List UInt8} (g : skyOk s) (h : w ∈ rainsB s) : tailB w ∈ rainsB s := by
  obtain ⟨h1, h2, h3⟩ := rainsB_mem.1 h
  obtain ⟨g1, _, _⟩ := g
  cases w with
  | nil => simp at h1; omega
  | cons c u =>
    refine rainsB_mem.2 ⟨?_, ?_, ?_⟩
    · rw [← h1]
      simp [tailB]
    · intro d hd
      unfold tailB at hd
      rw [List.mem_append] at hd
      rcases hd with hd | hd
      · exact h2 d (List.mem_cons_of_mem _ hd)
      · rw [List.mem_singleton.1 hd]
        exact flipB_ok _
    · refine fallX_snoc (flipB_ne _) ?_
      have h3 : (nextOk s (0, 0) c && fallX s (nextX (0, 0) c) u) = true := h3
      rw [Bool.and_eq_true] at h3
      refine fallX_under (x := nextX (0, 0) c) (fun d hd => h2 d (List.mem_cons_of_mem _ hd)) (.inl rfl) ?_ h3.2
      unfold nextX
      split <;> dsimp only <;> omega
theorem tailB_get {w : List UInt8} {i : Nat} (h : i + 1 < w.length) : (tailB w).getD i 0 = w.getD (i + 1) 0 := by
  cases w with
  | nil => simp at h
  | cons c u =>
    have hi : i < u.length := by simpa using h
    unfold tailB
    rw [List.getD_eq_getElem?_getD, List.getD_eq_getElem?_getD, List.getElem?_append_left (by simpa using hi)]
    rfl
theorem tailB_len {w : List UInt8} (h : 0 < w.length) : (tailB w).length = w.length := by
  cases w with
  | nil => simp at h
  | cons c u => simp [tailB]
theorem std_later {p : Pas} {hs hs' : List Int} {w : List UInt8} (fp : pasOk p) (hh : headsOk hs') (h0 : hs.getD 0 0 = 0) (h : ∀ i, 0 ≤ hs.getD (i + 1) 0 ∧ hs.getD (i + 1) 0 ≤ hs'.getD i 0) (hq : ∀ i, 0 ≤ hs.getD i 0 ∧ hs.getD i 0 ≤ 40) :
    ∀ k, k + 1 ≤ w.length → better (stdR p hs w (k + 1)) (stdR p hs' (tailB w) k)
  | 0, _ => by
    show better (dayR p (p.grass, 0) (hs.getD 0 0) (wetB (w.getD 0 0))) (p.grass, 0)
    obtain ⟨f1, f2, f3, f4, f5, f6⟩ := fp
    rw [h0]
    have e : leftR (p.grass, 0) 0 = p.grass := by unfold leftR; dsimp only; omega
    unfold better dayR shortR
    rw [e]
    rw [if_neg (by simp), if_neg (by dsimp only; omega)]
    dsimp only
    split <;> exact ⟨by omega, Int.le_refl _⟩
  | k + 1, hk => by
    have ih := std_later (w := w) fp hh h0 h hq k (by omega)
    show better (dayR p (stdR p hs w (k + 1)) (hs.getD (k + 1) 0) (wetB (w.getD (k + 1) 0))) (dayR p (stdR p hs' (tailB w) k) (hs'.getD k 0) (wetB ((tailB w).getD k 0)))
    rw [tailB_get (w := w) (i := k) (by omega)]
    exact dayR_better MoreG.refl fp ih (stdR_ok fp hh k) (stdR_sleep fp (k + 1)) (h k).1 (h k).2
theorem starv_later {p : Pas} {hs hs' : List Int} {w : List UInt8} (fp : pasOk p) (hw : 0 < w.length) (hh : headsOk hs') (h0 : hs.getD 0 0 = 0) (h : ∀ i, 0 ≤ hs.getD (i + 1) 0 ∧ hs.getD (i + 1) 0 ≤ hs'.getD i 0) (hq : ∀ i, 0 ≤ hs.getD i 0 ∧ hs.getD i 0 ≤ 40)
    (hx : starvR p hs' (tailB w) < 0) : starvR p hs w < 0 := by
  by_cases e : starvR p hs w < 0
  · exact e
  · unfold starvR at *
    obtain ⟨h1, h2, _⟩ := fstH_iff (show 0 ≤ fstH (hungAt p hs w) w.length by omega)
    generalize (fstH (hungAt p hs w) w.length).toNat = i at h1 h2
    cases i with
    | zero =>
      unfold hungAt hungR at h2
      rw [h0, decide_eq_true_iff] at h2
      have : (stdR p hs w 0).1 = p.grass := rfl
      have := fp.2.1
      omega
    | succ i =>
      have b := (std_later (w := w) fp hh h0 h hq i (by omega)).1
      have := (h i).2
      have hx2 : hungAt p hs' (tailB w) i = true := by
        unfold hungAt hungR at *
        rw [decide_eq_true_iff] at *
        omega
      have := fstH_pos (q := hungAt p hs' (tailB w)) hx2 (n := (tailB w).length) (by rw [tailB_len hw]; omega)
      omega
theorem stay_later {p : Pas} {s : SkyR} {n : Int} {fr dy : Nat} (fp : pasOk p) (g : skyOk s) (hn : 0 ≤ n ∧ n ≤ 40) (hx : stayB p s n fr dy = true) : stayB p s n ((fr + 1 : Nat) : Int) dy = true := by
  unfold stayB fedB at *
  rw [List.all_eq_true] at *
  intro w hw
  have hl := rainsB_len hw
  have gd := g.1
  have e1 : ((fr + 1 : Nat) : Int).toNat = fr + 1 := by omega
  have e2 : ((fr : Nat) : Int).toNat = fr := by omega
  have e3 : ((dy : Nat) : Int).toNat = dy := by omega
  have := hx (tailB w) (tail_rain g hw)
  rw [decide_eq_true_eq] at *
  rw [e2, e3] at this
  rw [e1, e3]
  generalize hA : s.days.toNat = a at *
  refine starv_later fp (by omega) (stayH_ok hn) ?_ (fun i => ?_) (fun i => headsOk_getD (stayH_ok hn) i) this
  · rw [stayH_getD (by omega), if_neg (by omega)]
  · by_cases hi : i + 1 < a
    · rw [stayH_getD hi, stayH_getD (by omega)]
      split
      · rw [if_pos (by omega)]
        omega
      · split <;> omega
    · have z : (stayH a (fr + 1) dy n).getD (i + 1) 0 = 0 := by
        rw [List.getD_eq_getElem?_getD, List.getElem?_eq_none (by rw [stayH_len]; omega)]
        rfl
      rw [z]
      exact ⟨Int.le_refl _, (headsOk_getD (stayH_ok hn) i).1⟩
end Go.Proofs.Ythnccaajpdnndaa
namespace Go.Proofs.Ythnccaajpdnndaa
open Go.Conc Go.Proofs.Try
set_option maxRecDepth 100000
set_option maxHeartbeats 4000000
set_option linter.unusedVariables false
section
variable {main : Bool} {J : JT} {n0 : Nat} {h : List AObj} {K : Value → List AObj → Prop}
theorem at65 : prog.funcs[65]? = some f65 := by kernel_rfl
theorem body65 : f65.body = some (codeOf f65) := by kernel_rfl
def pl65 : Plans := [(1, false, .take 0 (.take 2 (.last 1 true (.last 3 true (.last 4 true (.last 5 true (.take 6 (.fin))))))))]
def ct65 : Cuts := .bin (.go) (.bin (.go) (.bin (.bin (.go) (.cut (.go))) (.go)))
theorem pok65 : plansOk prog pl65 (codeOf f65) = true := by kernel_rfl
theorem e65 {a0 a1 a2 a3 a4 : Value} : W prog J 55 h.length 65 (codeOf f65) (RG.mk (regs [a0, a1, a2, a3, a4]) []) h (RetQ prog [.tmp 10, .tmp 11] h.length K) =
(aBox a0 h fun v1 h2 =>
 aBox a1 h2 fun v3 h4 =>
(∃ B, aLoad true 6 v1 h4 fun v5 =>
 RdOk (some B) (ptrBlk v1) ∧ (aLoad true 3 v3 h4 fun v6 =>
 RdOk (some B) (ptrBlk v3) ∧ (Good prog J 36 [v5] h4 fun v7 h8 =>
 SameB (some B) h4 h8 ∧ (Good prog J 72 [v6] h8 fun v9 h10 =>
 SameB (some B) h4 h10 ∧ ((((2 * 1 : Nat) ≤ 16777216 ∧ (2 : Nat) ≤ 16777216 ∧ List.length [(vint 0)] = 1) ∧ aFill (zrep [(vint 0)] 2) [(0, 1, v7), (1, 1, v9)] fun c11 =>
 aNewS 2 c11 h10 fun v12 h13 =>
 SameB (some B) h4 h13 ∧ (Good prog J 88 [v12] h13 fun v14 h15 =>
 SameB (some B) h4 h15 ∧ (aBin prog .neq 37 v14 (vint 0) fun v16 =>
 cnd v16
(retL h.length K [] [(vint 0), v14] h15)
(Good prog J 73 [a2, (vint 0), (vint 40)] h15 fun v17 h18 =>
 aUn .not v17 fun v19 =>
 cnd v19
(Hold (W prog J 55 h.length 65 (subC [1, 1, 0, 1] (codeOf f65)) (RG.p (RG.p (RG.p (RG.p (RG.p (RG.p (RG.p (RG.p (RG.p (RG.p (RG.p (RG.p (RG.p (RG.p (RG.p (RG.p (RG.p (RG.p (RG.p (RG.p (RG.p (RG.p (RG.p (RG.p (RG.mk (regs [a0, a1, a2, a3, a4]) []) 5 v1) 6 v3) 10 (vint 0)) 11 (vint 0)) 14 v5) 16 v6) 15 v7) 17 v9) 18 v12) 19 v14) 12 v14) 20 v14) 21 v16) 23 a2) 24 v17) 25 v19) 26 v19) 26 (Value.bool true)) 27 undef) 28 undef) 29 undef) 30 undef) 31 undef) 32 (Value.bool true)) h18 (contX pl65 prog J 55 h.length 65 ct65 [1, 1, 0, 1] (codeOf f65) [] (RetQ prog [.tmp 10, .tmp 11] h.length K))))
(aOff v3 0 fun v20 =>
 aLoad false 1 v20 h18 fun v21 =>
 Good prog J 73 [a3, (vint 1), v21] h18 fun v22 h23 =>
 aUn .not v22 fun v24 =>
 Hold (W prog J 55 h.length 65 (subC [1, 1, 0, 1] (codeOf f65)) (RG.p (RG.p (RG.p (RG.p (RG.p (RG.p (RG.p (RG.p (RG.p (RG.p (RG.p (RG.p (RG.p (RG.p (RG.p (RG.p (RG.p (RG.p (RG.p (RG.p (RG.p (RG.p (RG.p (RG.p (RG.mk (regs [a0, a1, a2, a3, a4]) []) 5 v1) 6 v3) 10 (vint 0)) 11 (vint 0)) 14 v5) 16 v6) 15 v7) 17 v9) 18 v12) 19 v14) 12 v14) 20 v14) 21 v16) 23 a2) 24 v17) 25 v19) 26 v19) 26 (Value.bool false)) 27 a3) 28 v20) 29 v21) 30 v22) 31 v24) 32 v24) h23 (contX pl65 prog J 55 h.length 65 ct65 [1, 1, 0, 1] (codeOf f65) [] (RetQ prog [.tmp 10, .tmp 11] h.length K)))))))))))))) := top_eq pok65 ct65 (by kernel_rfl)
theorem g65 (hJ : Closed prog main J) {a0 a1 a2 a3 a4 : Value} (hs : heapOk h → W prog J 55 h.length 65 (codeOf f65) (RG.mk (regs [a0, a1, a2, a3, a4]) []) h (RetQ prog [.tmp 10, .tmp 11] h.length K)) : Good prog J 65 [a0, a1, a2, a3, a4] h K :=
  good_of_W hJ mixed at65 body65 (by kernel_rfl) (Nat.le_of_ble_eq_true rfl) hs
theorem s65_1 {f : RG} : W prog J 55 n0 65 (subC [1, 1, 0, 1] (codeOf f65)) f h (contX pl65 prog J 55 n0 65 ct65 [1, 1, 0, 1] (codeOf f65) [] (RetQ prog [.tmp 10, .tmp 11] n0 K)) =
(cnd (f.r 32)
(retL n0 K f.ds [(vint 0), (vint 1)] h)
(aOff (f.r 6) 0 fun v1 =>
 aLoad false 1 v1 h fun v2 =>
 aBin prog .sub 3 v2 (vint 1) fun v3 =>
 Good prog J 73 [(f.r 4), (vint 0), v3] h fun v4 h5 =>
 aUn .not v4 fun v6 =>
 cnd v6
(retL n0 K f.ds [(vint 0), (vint 3)] h5)
(Sem J 55 n0 65 (subC [1, 1, 1, 1, 0, 1, 0] (codeOf f65)) (RG.p (RG.p (RG.p (RG.p (RG.p (RG.p (RG.p (RG.p f 33 (f.r 4)) 34 v1) 35 v2) 36 v3) 37 v4) 38 v6) 39 (f.r 4)) 13 (f.r 4)) h5 (contX pl65 prog J 55 n0 65 ct65 [1, 1, 1, 1, 0, 1, 0] (codeOf f65) [] (RetQ prog [.tmp 10, .tmp 11] n0 K))))) := sub_eq pok65 ct65 (by kernel_rfl)
theorem s65_2 {f : RG} {nx0 : RG → List AObj → Prop} : W prog J 55 n0 65 (subC [1, 1, 1, 1, 0, 1, 0, 0] (codeOf f65)) f h (thenK nx0 (contX pl65 prog J 55 n0 65 ct65 [1, 1, 1, 1, 0, 1, 0] (codeOf f65) [] (RetQ prog [.tmp 10, .tmp 11] n0 K))) =
(aBin prog .add 3 (f.r 13) (f.r 3) fun v1 =>
 aOff (f.r 6) 0 fun v2 =>
 aLoad false 1 v2 h fun v3 =>
 aBin prog .leq 3 v1 v3 fun v4 =>
 cnd v4
(aLoad true 6 (f.r 5) h fun v5 =>
 aLoad true 3 (f.r 6) h fun v6 =>
 Good prog J 89 [v5, v6, (f.r 2), (f.r 13), (f.r 3)] h fun v7 h8 =>
 cnd v7
(retL n0 K f.ds [(f.r 13), (vint 0)] h8)
(aBin prog .add 3 (f.r 13) (vint 1) fun v9 =>
 nx0 (RG.p (RG.p (RG.p (RG.p (RG.p (RG.p (RG.p (RG.p (RG.p (RG.p (RG.p (RG.p (RG.p (RG.p (RG.p f 40 (f.r 13)) 41 (f.r 3)) 42 v1) 43 v2) 44 v3) 45 v4) 48 v5) 49 v6) 50 (f.r 2)) 51 (f.r 13)) 52 (f.r 3)) 53 v7) 46 (f.r 13)) 47 v9) 13 v9) h8))
(retL n0 K f.ds [(vint 0), (vint 11)] h)) := sub_eq pok65 ct65 (by kernel_rfl)
theorem l65_2 (hJ : Closed prog main J) {S : Type} (μ : S → Nat) (I : S → RG → List AObj → Prop) (hI : ∀ s f h, I s f h → heapOk h → n0 ≤ h.length → W prog J 55 n0 65 (subC [1, 1, 1, 1, 0, 1, 0, 0] (codeOf f65)) f h (thenK (Nx n0 μ I s) (contX pl65 prog J 55 n0 65 ct65 [1, 1, 1, 1, 0, 1, 0] (codeOf f65) [] (RetQ prog [.tmp 10, .tmp 11] n0 K))))
  {s : S} {f : RG} (hi : Gets n0 I s f h) : Sem J 55 n0 65 (subC [1, 1, 1, 1, 0, 1, 0] (codeOf f65)) f h (contX pl65 prog J 55 n0 65 ct65 [1, 1, 1, 1, 0, 1, 0] (codeOf f65) [] (RetQ prog [.tmp 10, .tmp 11] n0 K)) :=
  loop_rule hJ mixed (b := subC [1, 1, 1, 1, 0, 1, 0, 0] (codeOf f65)) (by kernel_rfl) μ I hI hi
end
end Go.Proofs.Ythnccaajpdnndaa
namespace Go.Proofs.Ythnccaajpdnndaa
open Go.Conc Go.Proofs.Try
set_option maxRecDepth 100000
def rdyF (q : Nat → Bool) : Nat → Nat → Int × Int
  | 0, _ => (0, 11)
  | m + 1, d => if q d = true then ((d : Int), 0) else rdyF q m (d + 1)
theorem rdyF_spec {q : Nat → Bool} : ∀ m d, (∃ k, d ≤ k ∧ k < d + m ∧ q k = true ∧ (∀ j, d ≤ j → j < k → q j = false) ∧ rdyF q m d = ((k : Int), 0)) ∨ ((∀ j, d ≤ j → j < d + m → q j = false) ∧ rdyF q m d = (0, 11))
  | 0, d => .inr ⟨fun j h1 h2 => absurd h2 (by omega), rfl⟩
  | m + 1, d => by
    unfold rdyF
    by_cases h : q d = true
    · rw [if_pos h]
      exact .inl ⟨d, Nat.le_refl _, by omega, h, fun j h1 h2 => absurd h2 (by omega), rfl⟩
    · rw [if_neg h]
      have h' : q d = false := by simpa using h
      rcases rdyF_spec m (d + 1) (q := q) with ⟨k, k1, k2, k3, k4, k5⟩ | ⟨k4, k5⟩
      · refine .inl ⟨k, by omega, by omega, k3, fun j h1 h2 => ?_, k5⟩
        by_cases e : j = d
        · rw [e]; exact h'
        · exact k4 j (by omega) h2
      · refine .inr ⟨fun j h1 h2 => ?_, k5⟩
        by_cases e : j = d
        · rw [e]; exact h'
        · exact k4 j (by omega) (by omega)
def rdyV (p : Pas) (s : SkyR) (n dy fr : Int) : Int × Int :=
  if fst2 (pasE p) (skyE s) ≠ 0 then (0, fst2 (pasE p) (skyE s)) else if ¬ ((0 ≤ n ∧ n ≤ 40) ∧ (1 ≤ dy ∧ dy ≤ s.days)) then (0, 1) else if ¬ (0 ≤ fr ∧ fr ≤ s.days - 1) then (0, 3) else
    rdyF (fun d => stayB p s n (d : Nat) dy) (s.days + 1 - (fr + dy)).toNat fr.toNat
section
variable {main : Bool} {J : JT} {h H : List AObj} {K : Value → List AObj → Prop} {KV : Value → Prop} {HL : List AObj → Prop} {n0 : Nat}
theorem good65 (hJ : Closed prog main J) {p : Pas} {s : SkyR} {n dy fr : Int} (hK : ∀ H', SameX [] H H' → K (.tuple ⟨[vint (rdyV p s n dy fr).1, vint (rdyV p s n dy fr).2]⟩) H') : Good prog J 65 [.agg ⟨p.cells⟩, .agg ⟨s.cells⟩, vint n, vint dy, vint fr] H K := by
  refine g65 hJ fun ok => ?_
  rw [e65]
  refine qBox (l := p.cells) rfl fun H1 p4 e1 S1 c4 l1 => qBox (l := s.cells) rfl fun H2 p5 e2 S2 c5 l2 => ?_
  have c42 := S2.get c4 (by simp)
  have T2 := S1.trans S2
  have b4 := lt_of_get c42
  have b5 := lt_of_get c5
  refine ⟨[p4, p5], load_part (c := p.cells) c42 (by simp [Pas.cells]) rfl rfl ⟨by simp [RdOk, ptrBlk], load_part (c := s.cells) c5 (by simp [SkyR.cells]) rfl rfl ⟨by simp [RdOk, ptrBlk], ?_⟩⟩⟩
  have sb : ∀ {H'}, SameX [] H2 H' → SameB (some [p4, p5]) H2 H' := fun S => sbTwo S b4 b5 (by simp) (by simp)
  refine good36 hJ ⟨sb SameX.refl, good72 hJ ⟨sb SameX.refl, by decide, fillP2 ⟨rfl, rfl⟩ ⟨rfl, rfl⟩ (qNew fun H3 p3 e3 S3 c3 l3 => ⟨sb S3, ?_⟩)⟩⟩
  refine good88 hJ (ownX_sli (ownX_new (s := 1) (n := 2) c3 rfl rfl)) ⟨sb S3, ?_⟩
  have T3 := T2.trans S3
  have c43 := S3.get c42 (by simp)
  have c53 := S3.get c5 (by simp)
  have fin : ∀ {d e : Int} {H' : List AObj}, rdyV p s n dy fr = (d, e) → SameX [] H H' → retL H.length K [] [vint d, vint e] H' := fun {d e H'} he S => by
    have := hK H' S
    rw [he] at this
    exact retL_same (nu2 (by simp [unk]) (by simp [unk])) this
  refine neqI (cndI (fun h1 => fin (by unfold rdyV; rw [if_pos h1]) T3) fun h1 => ?_)
  obtain ⟨f, g⟩ := fst2_zero (p := p) (s := s) (by omega)
  obtain ⟨g1, g2, g3⟩ := id g
  have tail : ∀ {F : RG} {z : Bool}, F.ds = [] → F.r 2 = vint n → F.r 3 = vint dy → F.r 4 = vint fr → F.r 5 = ptr p4 0 → F.r 6 = ptr p5 0 → F.r 32 = .bool z → (z = true ↔ ¬ ((0 ≤ n ∧ n ≤ 40) ∧ (1 ≤ dy ∧ dy ≤ s.days))) →
      W prog J 55 H.length 65 (subC [1, 1, 0, 1] (codeOf f65)) F H3 (contX pl65 prog J 55 H.length 65 ct65 [1, 1, 0, 1] (codeOf f65) [] (RetQ prog [.tmp 10, .tmp 11] H.length K)) := by
    intro F z ds r2 r3 r4 r5 r6 r32 hz
    rw [s65_1, r4, r6, r32, ds]
    refine cndB (fun hb => fin (by unfold rdyV; rw [if_neg h1, if_pos (hz.1 hb)]) T3) fun hb => ?_
    have h2 : ¬ ¬ ((0 ≤ n ∧ n ≤ 40) ∧ (1 ≤ dy ∧ dy ≤ s.days)) := fun h => by
      rw [hz.2 h] at hb
      cases hb
    refine offI (ldI (v := vint s.days) c53 rfl rfl (subI (by omega) (good73 hJ (notI (cndN (fun h3 => fin (by unfold rdyV; rw [if_neg h1, if_neg h2, if_pos h3]) T3) fun h3 => ?_)))))
    obtain ⟨q1, q2⟩ := Classical.not_not.1 h2
    obtain ⟨frn, rfl⟩ := Int.eq_ofNat_of_zero_le h3.1
    obtain ⟨dyn, rfl⟩ := Int.eq_ofNat_of_zero_le (by omega : 0 ≤ dy)
    have hv : rdyV p s n (dyn : Nat) (frn : Nat) = rdyF (fun d => stayB p s n (d : Nat) (dyn : Nat)) (s.days + 1 - ((frn : Int) + dyn)).toNat frn := by
      unfold rdyV
      rw [if_neg h1, if_neg h2, if_neg (not_not_intro h3), Int.toNat_natCast]
    refine l65_2 hJ (fun d : Nat => (s.days + 1 - ((d : Int) + dyn)).toNat) (fun d F H' => d ≤ 8 ∧ SameX [] H H' ∧ H'[p4]? = some (.cells p.cells true 0) ∧ H'[p5]? = some (.cells s.cells true 0) ∧ rdyV p s n (dyn : Nat) (frn : Nat) = rdyF (fun d => stayB p s n (d : Nat) (dyn : Nat)) (s.days + 1 - ((d : Int) + dyn)).toNat d ∧ F.ds = [] ∧ F.r 2 = vint n ∧ F.r 3 = vint (dyn : Nat) ∧ F.r 5 = ptr p4 0 ∧ F.r 6 = ptr p5 0 ∧ F.r 13 = vint (d : Nat)) ?_ (s := frn)
      (.inl ⟨by omega, T3, c43, c53, hv, ds, r2, r3, r5, r6, rfl⟩)
    rintro d F H' ⟨hd, S, d4, d5, hq, ds, r2, r3, r5, r6, r13⟩ okc hnc
    rw [s65_2, r2, r3, r5, r6, r13, ds]
    refine addI (by omega) (offI (ldI (v := vint s.days) d5 rfl rfl (leqI (cndI (fun hle => ?_) fun hgt => ?_))))
    · refine load_part (c := p.cells) d4 (by simp [Pas.cells]) rfl rfl (load_part (c := s.cells) d5 (by simp [SkyR.cells]) rfl rfl ?_)
      obtain ⟨m, hm⟩ : ∃ m, (s.days + 1 - ((d : Int) + dyn)).toNat = m + 1 := ⟨(s.days - ((d : Int) + dyn)).toNat, by omega⟩
      rw [hm] at hq
      refine good89 hJ f g q1 (by omega) fun H4 S4 => cndB (fun hb => fin ?_ (S.trans S4)) fun hb => ?_
      · rw [hq]
        unfold rdyF
        rw [if_pos hb]
      · refine addI (by omega) ⟨d + 1, by dsimp only; omega, .inl ⟨by omega, S.trans S4, S4.get d4 (by simp), S4.get d5 (by simp), ?_, ds, r2, r3, r5, r6, by show vint _ = vint _; congr 1⟩⟩
        have e : (s.days + 1 - (((d + 1 : Nat) : Int) + dyn)).toNat = m := by omega
        rw [hq, e]
        conv => lhs; unfold rdyF
        rw [if_neg (by rw [hb]; decide)]
    · refine fin ?_ S
      have e : (s.days + 1 - ((d : Int) + dyn)).toNat = 0 := by omega
      rw [hq, e]
      rfl
  refine good73 hJ (notI (cndN (fun h2 => hold.2 (tail (z := true) rfl rfl rfl rfl rfl rfl rfl ⟨fun _ h => h2 h.1, fun _ => rfl⟩)) fun h2 => ?_))
  refine offI (ldI (v := vint s.days) c53 rfl rfl (good73 hJ (notI (hold.2 (tail (z := !decide (1 ≤ dy ∧ dy ≤ s.days)) rfl rfl rfl rfl rfl rfl rfl ?_)))))
  simp only [Bool.not_eq_true', decide_eq_false_iff_not]
  exact ⟨fun h3 h4 => h3 h4.2, fun h3 h4 => h3 ⟨h2, h4⟩⟩
end
theorem stay_on {p : Pas} {s : SkyR} {n : Int} {k dy : Nat} (fp : pasOk p) (g : skyOk s) (hn : 0 ≤ n ∧ n ≤ 40) (hx : stayB p s n (k : Nat) (dy : Nat) = true) : ∀ i : Nat, k ≤ i → stayB p s n (i : Nat) (dy : Nat) = true := fun i hi => by
  obtain ⟨d, rfl⟩ : ∃ d, i = k + d := ⟨i - k, by omega⟩
  clear hi
  induction d with
  | zero => exact hx
  | succ d ih => exact stay_later fp g hn ih
theorem rdy_law {p : Pas} {s : SkyR} {n : Int} {a fr dy : Nat} (fp : pasOk p) (g : skyOk s) (hn : 0 ≤ n ∧ n ≤ 40) (ha : s.days = (a : Int)) (h1 : 1 ≤ dy) (hd : dy ≤ a) (hf : fr + 1 ≤ a) :
    ((rdyV p s n (dy : Nat) (fr : Nat)).2 = 0 ∨ (rdyV p s n (dy : Nat) (fr : Nat)).2 = 11) ∧ (∀ i : Nat, fr ≤ i → i + dy ≤ a → stayB p s n (i : Nat) (dy : Nat) = (decide ((rdyV p s n (dy : Nat) (fr : Nat)).2 = 0) && decide ((i : Int) ≥ (rdyV p s n (dy : Nat) (fr : Nat)).1))) ∧
      ((rdyV p s n (dy : Nat) (fr : Nat)).2 = 0 → (fr : Int) ≤ (rdyV p s n (dy : Nat) (fr : Nat)).1 ∧ (rdyV p s n (dy : Nat) (fr : Nat)).1 + (dy : Nat) ≤ (a : Int)) ∧ 0 ≤ (rdyV p s n (dy : Nat) (fr : Nat)).1 ∧ (rdyV p s n (dy : Nat) (fr : Nat)).1 ≤ a := by
  have z : fst2 (pasE p) (skyE s) = 0 := by
    unfold pasE skyE
    rw [if_pos fp, if_pos g]
    rfl
  have hv : rdyV p s n (dy : Nat) (fr : Nat) = rdyF (fun d => stayB p s n (d : Nat) (dy : Nat)) (a + 1 - (fr + dy)) fr := by
    unfold rdyV
    rw [if_neg (not_not_intro z), if_neg (not_not_intro ⟨hn, by omega⟩), if_neg (not_not_intro (by omega)), Int.toNat_natCast]
    congr 1
    omega
  rw [hv]
  rcases rdyF_spec (q := fun d => stayB p s n (d : Nat) (dy : Nat)) (a + 1 - (fr + dy)) fr with ⟨k, k1, k2, k3, k4, k5⟩ | ⟨k4, k5⟩
  · rw [k5]
    refine ⟨.inl rfl, fun i i1 i2 => ?_, fun _ => ⟨by dsimp only; omega, by dsimp only; omega⟩, by dsimp only; omega, by dsimp only; omega⟩
    dsimp only
    by_cases h : k ≤ i
    · rw [stay_on fp g hn k3 i h, decide_eq_true (by omega : (i : Int) ≥ (k : Int))]
      rfl
    · rw [k4 i i1 (by omega), decide_eq_false (by omega : ¬ (i : Int) ≥ (k : Int))]
      rfl
  · rw [k5]
    refine ⟨.inr rfl, fun i i1 i2 => ?_, fun h => absurd h (by decide), Int.le_refl _, Int.natCast_nonneg a⟩
    rw [k4 i i1 (by omega)]
    rfl
section
variable {W0 : World} {Post : Value → World → Prop} {h : List AObj} {K : Value → List AObj → Prop} {KV : Value → Prop}
theorem neqLr {a b : Bool} (hk : KV (.bool (!(a == b)))) : aBin prog .neq 4 (.bool a) (.bool b) KV := by
  have e1 : teq prog 10000 4 (.bool a) (.bool b) = some (a == b) := by kernel_rfl
  have e2 : prog.eqGuardType prog.depth 4 = false := by kernel_rfl
  show aEq prog true 4 (.bool a) (.bool b) KV
  unfold aEq
  rw [e1]
  exact ⟨e2, hk⟩
set_option maxHeartbeats 1000000 in
theorem walk19 {nv : Value} {ns : List Int} (sn : Sli h nv 1 ns.length (ns.map vint)) (hln : ns.length < 4611686018427387904) (hK : ∀ H', K (.bool true) H') :
    W prog (J2 prog W0 Post) 95 h.length 19 (codeOf f19) (RG.mk (regs [nv]) []) h (RetQ prog [.tmp 2] h.length K) := by
  have hJ := J2.closed prog W0 Post
  rw [e19]
  refine newX hJ sn hln fun H1 a1 => good24 hJ a1 (by omega) fun p H2 fp _ S2 a2 => good25 hJ a2 (by omega) (by decide) fun s H3 gs hs7 S3 a3 => ?_
  obtain ⟨g1, g2, g3⟩ := id gs
  refine qAl fun H4 p4 e4 S4 c4 l4 => qAl fun H5 p5 e5 S5 c5 l5 => ?_
  have l3 := hxLt a3
  refine qStA (c := p.cells) (S5.get c4 (by simp)) rfl rfl rfl fun H6 S6 c6 l6 => qStA (c := s.cells) (S6.get c5 (by simp; omega)) rfl rfl rfl fun H7 S7 c7 l7 => ?_
  have c67 := S7.get c6 (by simp; omega)
  have T37 : SameX [] H3 H7 := ((S4.trans S5).thru S6 (by simp; omega)).thru S7 (by simp; omega)
  have a7 := HX.same a3 T37 (by simp)
  have b5 := lt_of_get c7
  refine ⟨[p5], offI (ldI (v := vint s.days) c7 rfl rfl ⟨by simp [RdOk, ptrBlk], offI (ldI (v := vint s.days) c7 rfl rfl ⟨by simp [RdOk, ptrBlk], subI (by omega) ?_⟩)⟩)⟩
  refine upX hJ a7 (by omega) (by omega) fun n H8 n0 n1 S8 l8 a8 => ⟨sbOne S8 b5 (by simp; omega), amX hJ a8 (by omega) (by omega) (by omega) fun dy H9 d0 d1 S9 l9 a9 => ⟨sbOne (S8.trans S9) b5 (by simp; omega), upX hJ a9 (by omega) (by omega) fun fr H10 f0 f1 S10 l10 a10 => ⟨sbOne ((S8.trans S9).trans S10) b5 (by simp; omega), ?_⟩⟩⟩
  have S710 := (S8.trans S9).trans S10
  have c610 := S710.get c67 (by simp; omega)
  have c710 := S710.get c7 (by simp; omega)
  obtain ⟨frn, rfl⟩ := Int.eq_ofNat_of_zero_le f0
  obtain ⟨dyn, rfl⟩ := Int.eq_ofNat_of_zero_le (by omega : 0 ≤ dy)
  obtain ⟨a, ha⟩ := Int.eq_ofNat_of_zero_le (by omega : (0 : Int) ≤ s.days)
  have hn : 0 ≤ n ∧ n ≤ 40 := by omega
  refine load_part (c := p.cells) c610 (by simp [Pas.cells]) rfl rfl (load_part (c := s.cells) c710 (by simp [SkyR.cells]) rfl rfl ?_)
  refine good65 hJ fun H11 S11 => ext0 (ext1 ?_)
  have c611 := S11.get c610 (by simp)
  have c711 := S11.get c710 (by simp)
  obtain ⟨q1, q2, q3, q4, q5⟩ := rdy_law (p := p) (s := s) (n := n) (a := a) (fr := frn) (dy := dyn) fp gs hn ha (by omega) (by omega) (by omega)
  generalize (rdyV p s n (dyn : Nat) (frn : Nat)).1 = D at q1 q2 q3 q4 q5 ⊢
  generalize (rdyV p s n (dyn : Nat) (frn : Nat)).2 = E at q1 q2 q3 q4 q5 ⊢
  have tail : ∀ {F : RG}, F.ds = [] → F.r 4 = ptr p4 0 → F.r 5 = ptr p5 0 → F.r 6 = vint n → F.r 7 = vint (dyn : Nat) → F.r 8 = vint (frn : Nat) → F.r 9 = vint D → F.r 10 = vint E → F.r 45 = .bool false →
      W prog (J2 prog W0 Post) 95 h.length 19 (subC [1, 1, 1, 1, 1, 0, 1] (codeOf f19)) F H11 (contX pl19 prog (J2 prog W0 Post) 95 h.length 19 ct19 [1, 1, 1, 1, 1, 0, 1] (codeOf f19) [] (RetQ prog [.tmp 2] h.length K)) := by
    intro F ds r4 r5 r6 r7 r8 r9 r10 r45
    rw [s19_1, r8, r45]
    refine cnd_false.2 ?_
    refine l19_2 hJ (fun i : Nat => 9 - i) (fun i F H' => frn ≤ i ∧ i ≤ 8 ∧ SameX [] H11 H' ∧ F.ds = [] ∧ F.r 4 = ptr p4 0 ∧ F.r 5 = ptr p5 0 ∧ F.r 6 = vint n ∧ F.r 7 = vint (dyn : Nat) ∧ F.r 8 = vint (frn : Nat) ∧ F.r 9 = vint D ∧ F.r 10 = vint E ∧ F.r 11 = vint (i : Nat)) ?_ (s := frn)
      (.inl ⟨Nat.le_refl _, by omega, SameX.refl, ds, r4, r5, r6, r7, r8, r9, r10, rfl⟩)
    clear ds r4 r5 r6 r7 r8 r9 r10 r45
    rintro i F H' ⟨i1, i2, S, ds, r4, r5, r6, r7, r8, r9, r10, r11⟩ okc hnc
    rw [s19_2, r4, r5, r6, r7, r8, r9, r10, r11, ds]
    have d6 := S.get c611 (by simp)
    have d7 := S.get c711 (by simp)
    refine addI (by omega) (offI (ldI (v := vint s.days) d7 rfl rfl (leqI (cndI (fun hle => ?_) fun hgt => ?_))))
    · refine load_part (c := p.cells) d6 (by simp [Pas.cells]) rfl rfl (load_part (c := s.cells) d7 (by simp [SkyR.cells]) rfl rfl ?_)
      refine good54 hJ ha (by omega) (fr := i) (dy := dyn) (by omega) fun H12 S12 => ?_
      rw [feed_stay fp gs hn ha, q2 i i1 (by omega), ckd_stay fp gs hn ha]
      refine ext0 (ext1 (notI (cnd_false.2 (eqlI (cndI (fun hE => ?_) fun hE => ?_)))))
      · refine geqI (neqLr (hold.2 ?_))
        rw [s19_3]
        show cnd (.bool (!((decide (E = 0) && decide ((i : Int) ≥ D)) == decide ((i : Int) ≥ D)))) _ _
        rw [decide_eq_true hE, Bool.true_and, beq_self_eq_true]
        refine cnd_false.2 ?_
        show aBin prog .add 3 (F.r 11) (vint 1) _
        rw [r11]
        exact addI (by omega) ⟨i + 1, by dsimp only; omega, .inl ⟨by omega, by omega, S.trans S12, ds, r4, r5, r6, r7, r8, r9, r10, by show vint _ = vint _; congr 1⟩⟩
      · refine neqLr (hold.2 ?_)
        rw [s19_3]
        show cnd (.bool (!((decide (E = 0) && decide ((i : Int) ≥ D)) == false))) _ _
        rw [decide_eq_false hE, Bool.false_and, beq_self_eq_true]
        refine cnd_false.2 ?_
        show aBin prog .add 3 (F.r 11) (vint 1) _
        rw [r11]
        exact addI (by omega) ⟨i + 1, by dsimp only; omega, .inl ⟨by omega, by omega, S.trans S12, ds, r4, r5, r6, r7, r8, r9, r10, by show vint _ = vint _; congr 1⟩⟩
    · refine neqI (cndI (fun hE => good21 fun H13 _ => retL_same (by simp [unk]) (hK H13)) fun hE => ?_)
      have := q3 (by omega)
      refine geqI (cndI (fun _ => ?_) fun h => absurd (by omega) h)
      refine addI (by omega) (offI (ldI (v := vint s.days) d7 rfl rfl (leqI (cndI (fun _ => good21 fun H13 _ => retL_same (by simp [unk]) (hK H13)) fun h => absurd (by omega) h))))
  refine neqI (cndI (fun h1 => neqI (hold.2 (tail rfl rfl rfl rfl rfl rfl rfl rfl (congrArg Value.bool (decide_eq_false (by omega)))))) fun h1 => hold.2 (tail rfl rfl rfl rfl rfl rfl rfl rfl rfl))
end
end Go.Proofs.Ythnccaajpdnndaa
namespace Go.Proofs.Ythnccaajpdnndaa
open Go.Conc Go.ChangeShapes Go.WideShapes Go.ChangeAt Go.RowKit Go.Proofs.Try
set_option maxRecDepth 100000
theorem lifted19 (os : Os) (started : os.Started) (H : Type) (enc : TypeId × Value → H) :
    ReturnsInLeavingWide {} checked os 19 .any (Rows.grassReadySpec.pre6 enc prog f19 Rows.grassReadyRow.domain false) (Rows.grassReadySpec.post enc prog f19 false true false false) := by
  refine returnsInLeavingWide_of_change_sized (C := checked) own started at19
    (ChangeSpec.witness6 (enc := enc) (C := checked) false ⟨#[], #[.slice none 0 0], []⟩ 8 (by kernel_rfl) (by kernel_rfl) (by kernel_rfl) (by kernel_rfl)) ?_
  intro W base args ds gs before hval0 hW _ hsz0 _
  have hsz : (DataW.weightsEach prog (f19.params.toList ++ Rows.grassReadySpec.plain.varTypes prog) (ds ++ gs)).all (· ≤ reachBytes) = true := hsz0
  clear hsz0
  have hval : ∀ (j : Nat) t v, f19.params[j]? = some t → args[j]? = some v → Value.okWide prog W .any base t v := hval0
  have hW' := hW
  obtain ⟨p, q, hA0, hV, rfl, _, _⟩ := hW
  have hA : DataW.TrodAll enc prog W 0 (fun _ => true) true f19.params.toList args.toList ds p := hA0
  have hps : f19.params = #[25] := by kernel_rfl
  rw [hps] at hA hval hsz
  obtain ⟨v0, d0, rfl, rfl, h0⟩ := trodAll_one hA
  obtain ⟨rfl, rfl⟩ := trodVars_none hV
  have u3 : prog.underlying 3 = some (.int .i64) := by kernel_rfl
  have u27 : prog.underlying 25 = some (.slice 3) := by kernel_rfl
  have u4 : prog.underlying 4 = some .bool := by kernel_rfl
  have c3 : prog.cellsOf 3 = 1 := by kernel_rfl
  have b3 : prog.bytesOf 3 = 8 := by kernel_rfl
  have hlt : ∀ x ∈ p, x.block < W.heap.size := fun x hx => by simpa using hW'.lt x (by simpa using hx)
  have hargs : ∀ (W' : World), Below W.heap.size W W' → DataW.TrodAll enc prog W' 0 (fun b => decide (b < W.heap.size)) true [25] [v0] [d0] p := fun W' hn =>
    trodAll_mk1 (Below.trod laidOut (by kernel_rfl) (of_decide_eq_true (by kernel_rfl)) h0 hn hlt)
  obtain ⟨ns, sn, ok2, hbig⟩ := arg_ints u27 u3 c3 (hval 0 25 v0 rfl rfl) h0
  have hln : ns.length < 4611686018427387904 := by
    rcases hbig with rfl | ⟨es, sp, rfl, hle⟩
    · simp
    · have := sized_slice hsz (j := 0) (t := 25) (e := 3) rfl rfl u27
      rw [b3] at this
      simp only [reachBytes] at this
      omega
  obtain ⟨M, last, o, w', t', r1, r2, r3, r4⟩ := law_run2 (g := 19) (fn := f19) at19 body19 (by kernel_rfl) W [v0] (Nat.le_of_ble_eq_true (by kernel_rfl : Nat.ble 1 f19.ntmps = true))
    (by
      intro v hv
      simp only [List.mem_cons, List.not_mem_nil, or_false] at hv
      subst hv
      exact ok2)
    (fun Post => walk19 (K := fun v _ => v = .bool true) sn hln fun _ => rfl)
  refine ⟨M, last, o, w', t', r1, r2, r3, r4.mono fun v hF => ?_⟩
  obtain ⟨rfl, hbelow⟩ := hF
  refine ⟨_, _, _, [], _, [], hW', ?_, hargs _ hbelow, by rfl, hbelow.frame _, fun h => by cases h⟩
  exact trodAll_mk1 (shut_bool u4 true)
theorem grassReady_holds : Rows.GrassReadySaid :=
  OpenClaim.holds_of_wide_leaving 19 f19 rfl rfl rfl rfl rfl rfl rfl ⟨rfl, rfl, rfl, rfl, rfl⟩ rfl rfl rfl rfl rfl (by kernel_rfl) at19 (by kernel_rfl)
    (of_decide_eq_true (by kernel_rfl)) (by unfold Func.isWrapper; first | (rw [if_pos (by decide +kernel)]; kernel_rfl) | (rw [if_neg (by decide +kernel)]; exact ⟨rfl, rfl⟩))
    (fun os started H enc _ => lifted19 os started H enc)
#print axioms grassReady_holds
end Go.Proofs.Ythnccaajpdnndaa
