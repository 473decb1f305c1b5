/- Parts of the proof, 6. No conditions. -/
import Derived.Lib.Index
import Derived.Lib.Bytealg
import Derived.Test.YtcmgjbflljmphaaGreatDoorK2
import Derived.Test.YtcmgjbflljmphaaGreatDoorK3
import Derived.Test.YtcmgjbflljmphaaGreatDoorK4
import Derived.Conc.MarkLaws
import Derived.Conc.AtomicLaws2
import Derived.Lib.IndexEntry
import Derived.RunT
import Derived.Lib.IndexLaws
import Derived.Conc.DeferLaws
import Derived.Test.YtcmgjbflljmphaaGreatDoorK5
namespace Go.Proofs.YtcmgjbflljmphaaGreatDoor
set_option maxRecDepth 100000
def partsB (c : UInt8) : List UInt8 → List (List UInt8)
 | [] => [[]]
 | b :: s => if b = c then [] :: partsB c s else match partsB c s with
  | p :: l => (b :: p) :: l
  | [] => [[b]]
section
variable {c : UInt8}
theorem partsB_ne (c : UInt8) (s : List UInt8) : partsB c s ≠ [] := by
 cases s with
 | nil => simp [partsB]
 | cons b s =>
  unfold partsB
  split
  ·simp
  ·split <;> simp
theorem partsB_cut : ∀ (p r : List UInt8),(∀ b ∈ p,b ≠ c) → partsB c (p ++ c :: r) = p :: partsB c r
 | [],r,_ => by simp [partsB]
 | b :: p,r,h => by
  have ih := partsB_cut p r fun x hx => h x (by simp [hx])
  simp only [List.cons_append,partsB]
  rw [if_neg (h b (by simp)),ih]
theorem partsB_one : ∀ p : List UInt8,(∀ b ∈ p,b ≠ c) → partsB c p = [p]
 | [],_ => rfl
 | b :: p,h => by
  have ih := partsB_one p fun x hx => h x (by simp [hx])
  simp only [partsB]
  rw [if_neg (h b (by simp)),ih]
theorem partsB_count : ∀ s : List UInt8,(partsB c s).length = s.count c + 1
 | [] => rfl
 | b :: s => by
  have ih := partsB_count s
  unfold partsB
  by_cases e : b = c
  ·rw [if_pos e]
   simp [e,ih]
  ·rw [if_neg e]
   have hb : List.count c (b :: s) = s.count c := List.count_cons_of_ne e
   rw [hb]
   split
   ·rename_i p l hp
    rw [hp] at ih
    simpa using ih
   ·rename_i hp
    exact absurd hp (partsB_ne c s)
theorem partsB_len : ∀ (s : List UInt8),∀ p ∈ partsB c s,p.length ≤ s.length
 | [],p,hp => by
  simp only [partsB,List.mem_singleton] at hp
  subst hp
  simp
 | b :: s,p,hp => by
  have ih := partsB_len s
  unfold partsB at hp
  by_cases e : b = c
  ·rw [if_pos e] at hp
   rcases List.mem_cons.1 hp with rfl | hp
   ·simp
   ·exact Nat.le_succ_of_le (ih p hp)
  ·rw [if_neg e] at hp
   split at hp
   ·rename_i q l hq
    rcases List.mem_cons.1 hp with rfl | hp
    ·have := ih q (by rw [hq]; simp)
     simp
     omega
    ·exact Nat.le_succ_of_le (ih p (by rw [hq]; simp [hp]))
   ·rename_i hq
    exact absurd hq (partsB_ne c s)
end
def isDig (b : UInt8) : Bool := decide (48 ≤ b.toNat) && decide (b.toNat ≤ 57)
def valB (d : List UInt8) : Int := d.foldl (fun n b => n * 10 + ((b.toNat : Int) - 48)) 0
def afterB (p w : List UInt8) : Option (List UInt8) := if p.isPrefixOf w then some (w.drop p.length) else none
theorem after_true {p w : List UInt8} (h : p.isPrefixOf w = true) : afterB p w = some (w.drop p.length) := if_pos h
theorem after_false {p w : List UInt8} (h : p.isPrefixOf w = false) : afterB p w = none := if_neg (by simp [h])
def joinR (sep a : List UInt8) (l : List (List UInt8)) : List UInt8 := a ++ l.flatMap (sep ++ ·)
def digC (n : Nat) : UInt8 := UInt8.ofNat (48 + n)
theorem valB_snoc (l : List UInt8) (x : UInt8) : valB (l ++ [x]) = valB l * 10 + ((x.toNat : Int) - 48) := by simp [valB,List.foldl_append]
theorem isDig_iff {b : UInt8} : isDig b = true ↔ 48 ≤ b.toNat ∧ b.toNat ≤ 57 := by simp [isDig]
theorem valB_from : ∀ (l : List UInt8) (a : Int),0 ≤ a → l.all isDig = true → 0 ≤ l.foldl (fun n b => n * 10 + ((b.toNat : Int) - 48)) a ∧ l.foldl (fun n b => n * 10 + ((b.toNat : Int) - 48)) a < (a + 1) * 10 ^ l.length
 | [],a,ha,_ => by
  simp
  omega
 | x :: l,a,ha,h => by
  rw [List.all_cons,Bool.and_eq_true,isDig_iff] at h
  obtain ⟨hx,h⟩ := h
  obtain ⟨i1,i2⟩ := valB_from l (a * 10 + ((x.toNat : Int) - 48)) (by omega) h
  rw [List.foldl_cons,List.length_cons,Int.pow_succ,Int.mul_comm (10 ^ l.length) 10,← Int.mul_assoc]
  refine ⟨i1,Int.lt_of_lt_of_le i2 (Int.mul_le_mul_of_nonneg_right (by omega) (Int.le_of_lt (Int.pow_pos (by decide))))⟩
theorem valB_bnd (l : List UInt8) (h : l.all isDig = true) : 0 ≤ valB l ∧ valB l < 10 ^ l.length := by
 have := valB_from l 0 (Int.le_refl _) h
 simpa [valB] using this
theorem valB_small {l : List UInt8} (h : l.all isDig = true) (hl : l.length ≤ 3) : 0 ≤ valB l ∧ valB l ≤ 999 := by
 obtain ⟨a,b⟩ := valB_bnd l h
 have : (10 : Int) ^ l.length ≤ 1000 := by
  rcases hn : l.length with _ | _ | _ | _ | n
  ·decide
  ·decide
  ·decide
  ·decide
  ·omega
 omega
theorem dig_of {b : UInt8} (h : isDig b = true) : ∃ k,k < 10 ∧ b = digC k := by
 rw [isDig_iff] at h
 refine ⟨b.toNat - 48,by omega,?_⟩
 unfold digC
 rw [show 48 + (b.toNat - 48) = b.toNat by omega]
 exact (UInt8.ofNat_toNat).symm
theorem parts_join {c : UInt8} : ∀ (a : List UInt8) (l : List (List UInt8)),(∀ w ∈ a :: l,∀ b ∈ w,b ≠ c) → partsB c (joinR [c] a l) = a :: l
 | a,[],h => by
  simp only [joinR,List.flatMap_nil,List.append_nil]
  exact partsB_one a (h a (by simp))
 | a,x :: l,h => by
  have ih := parts_join x l fun w hw => h w (by simp [hw])
  have e : joinR [c] a (x :: l) = a ++ c :: joinR [c] x l := by simp [joinR]
  rw [e,partsB_cut a _ (h a (by simp)),ih]
theorem join_parts {c : UInt8} : ∀ (s : List UInt8) {a : List UInt8} {l : List (List UInt8)},partsB c s = a :: l → s = joinR [c] a l
 | [],a,l,h => by
  simp only [partsB,List.cons.injEq] at h
  obtain ⟨rfl,rfl⟩ := h
  rfl
 | b :: s,a,l,h => by
  unfold partsB at h
  by_cases e : b = c
  ·rw [if_pos e] at h
   simp only [List.cons.injEq] at h
   obtain ⟨rfl,h⟩ := h
   cases l with
   | nil => exact absurd h (partsB_ne c s)
   | cons x l =>
    rw [join_parts s h,e]
    simp [joinR]
  ·rw [if_neg e] at h
   split at h
   ·rename_i p q hp
    simp only [List.cons.injEq] at h
    obtain ⟨rfl,rfl⟩ := h
    rw [join_parts s hp]
    rfl
   ·rename_i hp
    exact absurd hp (partsB_ne c s)
theorem lines_parts {c : UInt8} : ∀ (L : List (List UInt8)),(∀ u ∈ L,∀ b ∈ u,b ≠ c) → partsB c (L.flatMap (· ++ [c])) = L ++ [[]]
 | [],_ => rfl
 | u :: L,h => by
  have ih := lines_parts L fun w hw => h w (by simp [hw])
  have e : (u :: L).flatMap (· ++ [c]) = u ++ c :: L.flatMap (· ++ [c]) := by simp
  rw [e,partsB_cut u _ (h u (by simp)),ih]
  rfl
theorem parts_lines {c : UInt8} {s : List UInt8} (h : (partsB c s).getLast? = some []) : s = (partsB c s).dropLast.flatMap (· ++ [c]) := by
 have key : ∀ (l : List (List UInt8)) (a : List UInt8),(a :: l).getLast? = some [] → joinR [c] a l = (a :: l).dropLast.flatMap (· ++ [c]) := by
  intro l
  induction l with
  | nil =>
   intro a h
   simp at h
   subst h
   rfl
  | cons x l ih =>
   intro a h
   have ih := ih x (by simpa using h)
   have e : joinR [c] a (x :: l) = a ++ c :: joinR [c] x l := by simp [joinR]
   rw [e,ih]
   simp
 match hp : partsB c s with
 | [] => exact absurd hp (partsB_ne c s)
 | a :: l =>
  rw [hp] at h
  rw [← key l a h]
  exact join_parts s hp
end Go.Proofs.YtcmgjbflljmphaaGreatDoor
namespace Go.Proofs.YtcmgjbflljmphaaGreatDoor
open Go.Conc Go.Proofs.Tryz
set_option maxRecDepth 100000
set_option maxHeartbeats 4000000
set_option linter.unusedVariables false
section
variable {main : Bool} {J : JT} {n0 : Nat} {h : List AObj} {K : Value → List AObj → Prop}
theorem at9 : prog.funcs[9]? = some f9 := by kernel_rfl
theorem body9 : f9.body = some (codeOf f9) := by kernel_rfl
def pl9 : Plans := [(5,false,.take 0 (.take 1 (.take 2 (.take 3 (.take 7 (.take 8 (.take 9 (.take 10 (.take 14 (.take 15 (.take 16 (.take 17 (.last 4 true (.take 5 (.take 6 (.last 11 true (.take 12 (.take 13 (.last 18 true (.take 19 (.take 20 (.take 21 (.fin))))))))))))))))))))))),
 (9,false,.take 0 (.take 1 (.take 2 (.take 3 (.take 7 (.take 8 (.take 9 (.last 4 true (.take 5 (.take 6 (.last 10 true (.take 11 (.take 12 (.take 13 (.take 14 (.fin))))))))))))))))]
def ct9 : Cuts := .go
theorem pok9 : plansOk prog pl9 (codeOf f9) = true := by kernel_rfl
theorem e9 {a0 : Value} : W prog J 59 h.length 9 (codeOf f9) (RG.mk (regs [a0]) []) h (RetQ prog [.tmp 2,.tmp 3] h.length K) =
(aBox a0 h fun v1 h2 =>
 aLoad true 4 v1 h2 fun v3 =>
 Good prog J 27 [v3] h2 fun v4 h5 =>
 aBin prog .neq 35 v4 (vint 0) fun v6 =>
 cnd v6
(retL h.length K [] [(Value.string { data := #[] }),v4] h5)
((∃ B,aOff v1 0 fun v7 =>
 aOff v7 0 fun v8 =>
 aLoad false 1 v8 h5 fun v9 =>
 RdOk (some B) (ptrBlk v8) ∧ (aOff v1 0 fun v10 =>
 aOff v10 1 fun v11 =>
 aLoad false 1 v11 h5 fun v12 =>
 RdOk (some B) (ptrBlk v11) ∧ (aOff v1 0 fun v13 =>
 aOff v13 2 fun v14 =>
 aLoad false 1 v14 h5 fun v15 =>
 RdOk (some B) (ptrBlk v14) ∧ (callV prog (Good prog J) (Value.func (.func 28) #[] #[]) [v9] h5 fun v16 h17 =>
 SameB (some B) h5 h17 ∧ (aBin prog .add 9 (Value.string { data := #[119,101,108,108,32] }) v16 fun v18 =>
 aBin prog .add 9 v18 (Value.string { data := #[47] }) fun v19 =>
 callV prog (Good prog J) (Value.func (.func 28) #[] #[]) [v12] h17 fun v20 h21 =>
 SameB (some B) h5 h21 ∧ (aBin prog .add 9 v19 v20 fun v22 =>
 aBin prog .add 9 v22 (Value.string { data := #[32,43] }) fun v23 =>
 callV prog (Good prog J) (Value.func (.func 28) #[] #[]) [v15] h21 fun v24 h25 =>
 SameB (some B) h5 h25 ∧ (aBin prog .add 9 v23 v24 fun v26 =>
 aBin prog .add 9 v26 (Value.string { data := #[10] }) fun v27 =>
 aOff v1 3 fun v28 =>
 aLoad false 1 v28 h25 fun v29 =>
 aLenS v29 fun v30 =>
 Sem J 59 h.length 9 (subC [1,1,1,1,0,1,0] (codeOf f9)) (RG.p (RG.p (RG.p (RG.p (RG.p (RG.p (RG.p (RG.p (RG.p (RG.p (RG.p (RG.p (RG.p (RG.p (RG.p (RG.p (RG.p (RG.p (RG.p (RG.p (RG.p (RG.p (RG.p (RG.p (RG.p (RG.p (RG.p (RG.p (RG.p (RG.p (RG.p (RG.p (RG.p (RG.p (RG.p (RG.mk (regs [a0]) []) 1 v1) 2 (Value.string { data := #[] })) 3 (vint 0)) 9 v3) 10 v4) 4 v4) 11 v4) 12 v6) 5 (Value.func (.func 28) #[] #[])) 14 (Value.func (.func 28) #[] #[])) 15 v7) 16 v8) 17 v9) 21 (Value.func (.func 28) #[] #[])) 22 v10) 23 v11) 24 v12) 28 (Value.func (.func 28) #[] #[])) 29 v13) 30 v14) 31 v15) 18 v16) 19 v18) 20 v19) 25 v20) 26 v22) 27 v23) 32 v24) 33 v26) 34 v27) 6 v27) 35 v28) 36 v29) 37 v30) 38 (vint 0)) h25 (contX pl9 prog J 59 h.length 9 ct9 [1,1,1,1,0,1,0] (codeOf f9) [] (RetQ prog [.tmp 2,.tmp 3] h.length K))))))))))) := top_eq pok9 ct9 (by kernel_rfl)
theorem g9 (hJ : Closed prog main J) {a0 : Value} (hs : heapOk h → W prog J 59 h.length 9 (codeOf f9) (RG.mk (regs [a0]) []) h (RetQ prog [.tmp 2,.tmp 3] h.length K)) : Good prog J 9 [a0] h K :=
 good_of_W hJ mixed at9 body9 (by kernel_rfl) (Nat.le_of_ble_eq_true rfl) hs
theorem s9_1 {f : RG} {nx0 : RG → List AObj → Prop} : W prog J 59 n0 9 (subC [1,1,1,1,0,1,0,0] (codeOf f9)) f h (thenK nx0 (contX pl9 prog J 59 n0 9 ct9 [1,1,1,1,0,1,0] (codeOf f9) [] (RetQ prog [.tmp 2,.tmp 3] n0 K))) =
(aBin prog .lss 3 (f.r 38) (f.r 37) fun v1 =>
 cnd v1
(aIdx 2 (f.r 36) (f.r 38) fun v2 =>
 aLoad true 2 v2 h fun v3 =>
 aAlloc [(vint 0),(vint 0)] h fun v4 h5 =>
 aStore 2 v4 v3 h5 fun h6 =>
(∃ B,aOff v4 0 fun v7 =>
 aLoad false 1 v7 h6 fun v8 =>
 RdOk (some B) (ptrBlk v7) ∧ (aOff v4 1 fun v9 =>
 aLoad false 1 v9 h6 fun v10 =>
 RdOk (some B) (ptrBlk v9) ∧ (callV prog (Good prog J) (f.r 5) [v8] h6 fun v11 h12 =>
 SameB (some B) h6 h12 ∧ (aBin prog .add 9 (Value.string { data := #[102,108,111,99,107,32,45] }) v11 fun v13 =>
 aBin prog .add 9 v13 (Value.string { data := #[32,64] }) fun v14 =>
 callV prog (Good prog J) (f.r 5) [v10] h12 fun v15 h16 =>
 SameB (some B) h6 h16 ∧ (aBin prog .add 9 v14 v15 fun v17 =>
 aBin prog .add 9 v17 (Value.string { data := #[10] }) fun v18 =>
 aBin prog .add 9 (f.r 6) v18 fun v19 =>
 aBin prog .add 3 (f.r 38) (vint 1) fun v20 =>
 nx0 (RG.p (RG.p (RG.p (RG.p (RG.p (RG.p (RG.p (RG.p (RG.p (RG.p (RG.p (RG.p (RG.p (RG.p (RG.p (RG.p (RG.p (RG.p (RG.p (RG.p (RG.p f 39 v1) 40 v2) 41 v3) 8 v4) 42 (f.r 6)) 43 (f.r 5)) 44 v7) 45 v8) 49 (f.r 5)) 50 v9) 51 v10) 46 v11) 47 v13) 48 v14) 52 v15) 53 v17) 54 v18) 55 v19) 6 v19) 56 v20) 38 v20) h16))))))
(aBin prog .add 9 (f.r 6) (Value.string { data := #[116,114,111,117,103,104,10] }) fun v21 =>
 retL n0 K f.ds [v21,(vint 0)] h)) := sub_eq pok9 ct9 (by kernel_rfl)
theorem l9_1 (hJ : Closed prog main J) {S : Type} (μ : S → Nat) (I : S → RG → List AObj → Prop) (hI : ∀ s f h,I s f h → heapOk h → n0 ≤ h.length → W prog J 59 n0 9 (subC [1,1,1,1,0,1,0,0] (codeOf f9)) f h (thenK (Nx n0 μ I s) (contX pl9 prog J 59 n0 9 ct9 [1,1,1,1,0,1,0] (codeOf f9) [] (RetQ prog [.tmp 2,.tmp 3] n0 K))))
 {s : S} {f : RG} (hi : Gets n0 I s f h) : Sem J 59 n0 9 (subC [1,1,1,1,0,1,0] (codeOf f9)) f h (contX pl9 prog J 59 n0 9 ct9 [1,1,1,1,0,1,0] (codeOf f9) [] (RetQ prog [.tmp 2,.tmp 3] n0 K)) :=
 loop_rule hJ mixed (b := subC [1,1,1,1,0,1,0,0] (codeOf f9)) (by kernel_rfl) μ I hI hi
end
section
variable {main : Bool} {J : JT} {n0 : Nat} {h : List AObj} {K : Value → List AObj → Prop}
theorem at28 : prog.funcs[28]? = some f28 := by kernel_rfl
theorem body28 : f28.body = some (codeOf f28) := by kernel_rfl
def pl28 : Plans := []
def ct28 : Cuts := .go
theorem pok28 : plansOk prog pl28 (codeOf f28) = true := by kernel_rfl
theorem e28 {a0 : Value} : W prog J 5 h.length 28 (codeOf f28) (RG.mk (regs [a0]) []) h (RetQ prog [.tmp 2] h.length K) =
(Good prog J 53 [a0] h fun v1 h2 =>
 retL h.length K [] [v1] h2) := top_eq pok28 ct28 (by kernel_rfl)
theorem g28 (hJ : Closed prog main J) {a0 : Value} (hs : heapOk h → W prog J 5 h.length 28 (codeOf f28) (RG.mk (regs [a0]) []) h (RetQ prog [.tmp 2] h.length K)) : Good prog J 28 [a0] h K :=
 good_of_W hJ mixed at28 body28 (by kernel_rfl) (Nat.le_of_ble_eq_true rfl) hs
theorem at53 : prog.funcs[53]? = some f53 := by kernel_rfl
theorem body53 : f53.body = some (codeOf f53) := by kernel_rfl
def pl53 : Plans := []
def ct53 : Cuts := .go
theorem pok53 : plansOk prog pl53 (codeOf f53) = true := by kernel_rfl
theorem e53 {a0 : Value} : W prog J 5 h.length 53 (codeOf f53) (RG.mk (regs [a0]) []) h (RetQ prog [.tmp 2] h.length K) =
(Good prog J 71 [a0,(vint 10)] h fun v1 h2 =>
 retL h.length K [] [v1] h2) := top_eq pok53 ct53 (by kernel_rfl)
theorem g53 (hJ : Closed prog main J) {a0 : Value} (hs : heapOk h → W prog J 5 h.length 53 (codeOf f53) (RG.mk (regs [a0]) []) h (RetQ prog [.tmp 2] h.length K)) : Good prog J 53 [a0] h K :=
 good_of_W hJ mixed at53 body53 (by kernel_rfl) (Nat.le_of_ble_eq_true rfl) hs
theorem at71 : prog.funcs[71]? = some f71 := by kernel_rfl
theorem body71 : f71.body = some (codeOf f71) := by kernel_rfl
def pl71 : Plans := []
def ct71 : Cuts := .bin (.go) (.bin (.bin (.go) (.bin (.bin (.bin (.go) (.cut (.go))) (.bin (.go) (.bin (.go) (.bin (.go) (.cut (.go)))))) (.go))) (.go))
theorem pok71 : plansOk prog pl71 (codeOf f71) = true := by kernel_rfl
theorem e71 {a0 a1 : Value} : W prog J 54 h.length 71 (codeOf f71) (RG.mk (regs [a0,a1]) []) h (RetQ prog [.tmp 4] h.length K) =
(aBin prog .eql 3 a1 (vint 10) fun v1 =>
 cnd v1
(aBin prog .leq 2 (vint 0) a0 fun v2 =>
 cnd v2
(aBin prog .lss 2 a0 (vint 100) fun v3 =>
 Hold (W prog J 54 h.length 71 (subC [1,0,1,0,0,1] (codeOf f71)) (RG.p (RG.p (RG.p (RG.p (RG.p (RG.p (RG.p (RG.p (RG.p (RG.p (RG.mk (regs [a0,a1]) []) 4 (Value.string { data := #[] })) 10 a1) 11 v1) 12 a0) 13 v2) 14 v2) 14 (Value.bool true)) 15 a0) 16 v3) 17 v3) h (contX pl71 prog J 54 h.length 71 ct71 [1,0,1,0,0,1] (codeOf f71) [] (RetQ prog [.tmp 4] h.length K))))
(Hold (W prog J 54 h.length 71 (subC [1,0,1,0,0,1] (codeOf f71)) (RG.p (RG.p (RG.p (RG.p (RG.p (RG.p (RG.p (RG.p (RG.p (RG.p (RG.mk (regs [a0,a1]) []) 4 (Value.string { data := #[] })) 10 a1) 11 v1) 12 a0) 13 v2) 14 v2) 14 (Value.bool false)) 15 undef) 16 undef) 17 (Value.bool false)) h (contX pl71 prog J 54 h.length 71 ct71 [1,0,1,0,0,1] (codeOf f71) [] (RetQ prog [.tmp 4] h.length K)))))
(aConvI .u64 a0 fun v4 =>
 aBin prog .lss 2 a0 (vint 0) fun v5 =>
 Good prog J 88 [(Value.slice none 0 0),v4,a1,v5,(Value.bool false)] h fun v6 h7 =>
 aExt v6 0 fun v8 =>
 aExt v6 1 fun v9 =>
 retL h.length K [] [v9] h7)) := top_eq pok71 ct71 (by kernel_rfl)
theorem g71 (hJ : Closed prog main J) {a0 a1 : Value} (hs : heapOk h → W prog J 54 h.length 71 (codeOf f71) (RG.mk (regs [a0,a1]) []) h (RetQ prog [.tmp 4] h.length K)) : Good prog J 71 [a0,a1] h K :=
 good_of_W hJ mixed at71 body71 (by kernel_rfl) (Nat.le_of_ble_eq_true rfl) hs
theorem s71_1 {f : RG} : W prog J 54 n0 71 (subC [1,0,1,0,0,1] (codeOf f71)) f h (contX pl71 prog J 54 n0 71 ct71 [1,0,1,0,0,1] (codeOf f71) [] (RetQ prog [.tmp 4] n0 K)) =
(cnd (f.r 17)
(Good prog J 85 [(f.r 0)] h fun v1 h2 =>
 retL n0 K f.ds [v1] h2)
(aAlloc [(Value.int .u8 0),(Value.int .u8 0),(Value.int .u8 0),(Value.int .u8 0),(Value.int .u8 0),(Value.int .u8 0),(Value.int .u8 0),(Value.int .u8 0),(Value.int .u8 0),(Value.int .u8 0),(Value.int .u8 0),(Value.int .u8 0),(Value.int .u8 0),(Value.int .u8 0),(Value.int .u8 0),(Value.int .u8 0),(Value.int .u8 0),(Value.int .u8 0),(Value.int .u8 0),(Value.int .u8 0),(Value.int .u8 0),(Value.int .u8 0),(Value.int .u8 0),(Value.int .u8 0)] h fun v3 h4 =>
 aConvI .u64 (f.r 0) fun v5 =>
 aBin prog .lss 2 (f.r 0) (vint 0) fun v6 =>
 cnd v6
(aUn .neg v5 fun v7 =>
 Hold (W prog J 54 n0 71 (subC [1,0,1,0,1,1,1,1] (codeOf f71)) (RG.p (RG.p (RG.p (RG.p (RG.p (RG.p (RG.p (RG.p (RG.p f 5 v3) 20 (f.r 0)) 21 v5) 6 v5) 22 (f.r 0)) 23 v6) 24 v5) 25 v7) 6 v7) h4 (contX pl71 prog J 54 n0 71 ct71 [1,0,1,0,1,1,1,1] (codeOf f71) [] (RetQ prog [.tmp 4] n0 K))))
(Hold (W prog J 54 n0 71 (subC [1,0,1,0,1,1,1,1] (codeOf f71)) (RG.p (RG.p (RG.p (RG.p (RG.p (RG.p f 5 v3) 20 (f.r 0)) 21 v5) 6 v5) 22 (f.r 0)) 23 v6) h4 (contX pl71 prog J 54 n0 71 ct71 [1,0,1,0,1,1,1,1] (codeOf f71) [] (RetQ prog [.tmp 4] n0 K)))))) := sub_eq pok71 ct71 (by kernel_rfl)
theorem at85 : prog.funcs[85]? = some f85 := by kernel_rfl
theorem body85 : f85.body = some (codeOf f85) := by kernel_rfl
def pl85 : Plans := []
def ct85 : Cuts := .go
theorem pok85 : plansOk prog pl85 (codeOf f85) = true := by kernel_rfl
theorem e85 {a0 : Value} : W prog J 15 h.length 85 (codeOf f85) (RG.mk (regs [a0]) []) h (RetQ prog [.tmp 2] h.length K) =
(aBin prog .lss 3 a0 (vint 10) fun v1 =>
 cnd v1
(aBin prog .add 3 a0 (vint 1) fun v2 =>
 aSlStr (Value.string { data := #[48,49,50,51,52,53,54,55,56,57,97,98,99,100,101,102,103,104,105,106,107,108,109,110,111,112,113,114,115,116,117,118,119,120,121,122] }) (some a0) (some v2) fun v3 =>
 retL h.length K [] [v3] h)
(aBin prog .mul 3 a0 (vint 2) fun v4 =>
 aBin prog .mul 3 a0 (vint 2) fun v5 =>
 aBin prog .add 3 v5 (vint 2) fun v6 =>
 aSlStr (Value.string { data := #[48,48,48,49,48,50,48,51,48,52,48,53,48,54,48,55,48,56,48,57,49,48,49,49,49,50,49,51,49,52,49,53,49,54,49,55,49,56,49,57,50,48,50,49,50,50,50,51,50,52,50,53,50,54,50,55,50,56,50,57,51,48,51,49,51,50,51,51,51,52,51,53,51,54,51,55,51,56,51,57,52,48,52,49,52,50,52,51,52,52,52,53,52,54,52,55,52,56,52,57,53,48,53,49,53,50,53,51,53,52,53,53,53,54,53,55,53,56,53,57,54,48,54,49,54,50,54,51,54,52,54,53,54,54,54,55,54,56,54,57,55,48,55,49,55,50,55,51,55,52,55,53,55,54,55,55,55,56,55,57,56,48,56,49,56,50,56,51,56,52,56,53,56,54,56,55,56,56,56,57,57,48,57,49,57,50,57,51,57,52,57,53,57,54,57,55,57,56,57,57] }) (some v4) (some v6) fun v7 =>
 retL h.length K [] [v7] h)) := top_eq pok85 ct85 (by kernel_rfl)
theorem g85 (hJ : Closed prog main J) {a0 : Value} (hs : heapOk h → W prog J 15 h.length 85 (codeOf f85) (RG.mk (regs [a0]) []) h (RetQ prog [.tmp 2] h.length K)) : Good prog J 85 [a0] h K :=
 good_of_W hJ mixed at85 body85 (by kernel_rfl) (Nat.le_of_ble_eq_true rfl) hs
end
end Go.Proofs.YtcmgjbflljmphaaGreatDoor
namespace Go.Proofs.YtcmgjbflljmphaaGreatDoor
def strV (w : List UInt8) : Value := .string ⟨⟨w⟩⟩
end Go.Proofs.YtcmgjbflljmphaaGreatDoor
namespace Go.Proofs.YtcmgjbflljmphaaGreatDoor
open Go.Conc Go.Proofs.Tryz
set_option maxRecDepth 100000
section
variable {main : Bool} {J : JT} {h H : List AObj} {K : Value → List AObj → Prop} {KV : Value → Prop} {HL : List AObj → Prop} {n0 : Nat}
theorem fillO {m : List Value} {o s : Nat} {v : Value} {l : List Value} {ps : List (Nat × Nat × Value)} {KL : List Value → Prop} (hv : v.cells.toList = l) (hs : l.length = s) (ho : l.all one = true) (hl : o + s ≤ m.length) (hk : aFill (wrAt m o l) ps KL) : aFill m ((o,s,v) :: ps) KL := by
 subst hv
 exact ⟨hs,ho,hl,hk⟩
theorem nu2 {a b : Value} (ha : a ≠ unk) (hb : b ≠ unk) : ∀ v ∈ [a,b],v ≠ unk := by
 intro v hv
 simp only [List.mem_cons,List.not_mem_nil,or_false] at hv
 rcases hv with rfl | rfl <;> assumption
end
structure Pas where
 grass : Int
 bears : Int
 dry : Int
 wet : Int
 stubble : Int
 sleep : Int
 deriving DecidableEq
structure SkyR where
 days : Int
 drought : Int
 flood : Int
 deriving DecidableEq
def Pas.cells (p : Pas) : List Value := [vint p.grass,vint p.bears,vint p.dry,vint p.wet,vint p.stubble,vint p.sleep]
def SkyR.cells (s : SkyR) : List Value := [vint s.days,vint s.drought,vint s.flood]
def pasOk (p : Pas) : Prop := (1 ≤ p.bears ∧ p.bears ≤ 99) ∧ (0 ≤ p.grass ∧ p.grass ≤ p.bears) ∧ (0 ≤ p.dry ∧ p.dry ≤ 9) ∧ (p.dry ≤ p.wet ∧ p.wet ≤ 9) ∧ (0 ≤ p.stubble ∧ p.stubble ≤ p.bears) ∧ (0 ≤ p.sleep ∧ p.sleep ≤ 5)
instance (p : Pas) : Decidable (pasOk p) := by unfold pasOk; infer_instance
def skyOk (s : SkyR) : Prop := (1 ≤ s.days ∧ s.days ≤ 8) ∧ (1 ≤ s.drought ∧ s.drought ≤ s.days) ∧ (1 ≤ s.flood ∧ s.flood ≤ s.days)
instance (s : SkyR) : Decidable (skyOk s) := by unfold skyOk; infer_instance
abbrev Std := Int × Int
def num2 (n : Nat) : List UInt8 := if n < 10 then [UInt8.ofNat (48 + n)] else [UInt8.ofNat (48 + n / 10),UInt8.ofNat (48 + n % 10)]
theorem num2_len (n : Nat) : (num2 n).length ≤ 2 ∧ 0 < (num2 n).length := by
 unfold num2
 split <;> simp
section
variable {main : Bool} {J : JT} {h H : List AObj} {K : Value → List AObj → Prop} {KV : Value → Prop}
theorem slC {s u : List UInt8} {lo hi : Int} (h : 0 ≤ lo ∧ lo ≤ hi ∧ hi ≤ s.length) (hu : (s.take hi.toNat).drop lo.toNat = u) (hk : KV (strV u)) : aSlStr (strV s) (some (vint lo)) (some (vint hi)) KV := by
 subst hu
 show match (bif decide ((0 : Int) ≤ lo) then some lo.toNat else none),(bif decide ((0 : Int) ≤ hi) then some hi.toNat else none) with
  | some l,some u => (l ≤ u ∧ u ≤ s.length) ∧ KV (.string ⟨⟨(s.take u).drop l⟩⟩)
  | _,_ => False
 rw [decide_eq_true h.1,decide_eq_true (by omega : (0 : Int) ≤ hi),cond_true,cond_true]
 exact ⟨⟨by omega,by omega⟩,hk⟩
theorem callCt {g : FuncId} {args cap : List Value} (hg : Nat.blt g prog.funcs.size = true) (hk : Good prog J g (args ++ cap) H K) : callV prog (Good prog J) (.func (.func g) ⟨[]⟩ ⟨cap⟩) args H K := by
 show (bif Nat.blt g prog.funcs.size then Good prog J g ([] ++ args ++ cap) H K else False)
 rw [hg,cond_true,List.nil_append]
 exact hk
theorem catC {t : TypeId} {u v : List UInt8} (hl : u.length + v.length ≤ 1000000) (hk : KV (strV (u ++ v))) : aBin prog .add t (strV u) (strV v) KV := by
 have hrm : (2000000 : Nat) < room := by decide
 show (ByteArray.mk ⟨u⟩).size + (ByteArray.mk ⟨v⟩).size ≤ room ∧ KV (.string (ByteArray.mk ⟨u⟩ ++ ByteArray.mk ⟨v⟩))
 have e1 : (ByteArray.mk ⟨v⟩).size = v.length := rfl
 have e2 : (ByteArray.mk ⟨u⟩).size = u.length := rfl
 have e3 : ByteArray.mk ⟨u⟩ ++ ByteArray.mk ⟨v⟩ = ByteArray.mk ⟨u ++ v⟩ := by
  apply ByteArray.ext
  rw [ByteArray.data_append]
  apply Array.ext'
  rw [Array.toList_append]
 rw [e1,e2,e3]
 exact ⟨by omega,hk⟩
def digs : List UInt8 := [48,49,50,51,52,53,54,55,56,57,97,98,99,100,101,102,103,104,105,106,107,108,109,110,111,112,113,114,115,116,117,118,119,120,121,122]
def pairs : List UInt8 := (List.range 100).flatMap fun n => [UInt8.ofNat (48 + n / 10),UInt8.ofNat (48 + n % 10)]
theorem digs_at : ∀ n ∈ List.range 10,(digs.take (n + 1)).drop n = num2 n := of_decide_eq_true (by kernel_rfl)
theorem pairs_at : ∀ n ∈ List.range 100,n < 10 ∨ (pairs.take (n * 2 + 2)).drop (n * 2) = num2 n := of_decide_eq_true (by kernel_rfl)
theorem pairs_len : pairs.length = 200 := by kernel_rfl
theorem sml_form (n : Int) : W prog J 15 H.length 85 (codeOf f85) (RG.mk (regs [vint n]) []) H (RetQ prog [.tmp 2] H.length K) =
  aBin prog .lss 3 (vint n) (vint 10) fun v1 => cnd v1 (aBin prog .add 3 (vint n) (vint 1) fun v2 => aSlStr (strV digs) (some (vint n)) (some v2) fun v3 => retL H.length K [] [v3] H)
   (aBin prog .mul 3 (vint n) (vint 2) fun v4 => aBin prog .mul 3 (vint n) (vint 2) fun v5 => aBin prog .add 3 v5 (vint 2) fun v6 => aSlStr (strV pairs) (some v4) (some v6) fun v7 => retL H.length K [] [v7] H) := by
 rw [e85]
 kernel_rfl
theorem good85 (hJ : Closed prog main J) {n : Nat} (hn : n < 100) (hK : K (strV (num2 n)) H) : Good prog J 85 [vint n] H K := by
 refine g85 hJ fun _ => ?_
 rw [sml_form]
 refine lssI (cndI (fun h => ?_) fun h => ?_)
 ·have h10 : n < 10 := by omega
  refine addI (by omega) (slC (u := num2 n) (by rw [show digs.length = 36 from rfl]; omega) ?_ (retL_same (by simp [unk,strV]) hK))
  have := digs_at n (List.mem_range.2 h10)
  rw [show ((n : Int) + 1).toNat = n + 1 by omega,show ((n : Int)).toNat = n by omega]
  exact this
 ·have h10 : ¬ n < 10 := by omega
  refine mulI (by omega) (mulI (by omega) (addI (by omega) (slC (u := num2 n) (by rw [pairs_len]; omega) ?_ (retL_same (by simp [unk,strV]) hK))))
  have := (pairs_at n (List.mem_range.2 hn)).resolve_left h10
  rw [show ((n : Int) * 2 + 2).toNat = n * 2 + 2 by omega,show ((n : Int) * 2).toNat = n * 2 by omega]
  exact this
theorem good28 (hJ : Closed prog main J) {n : Nat} (hn : n < 100) (hK : K (strV (num2 n)) H) : Good prog J 28 [vint n] H K := by
 refine g28 hJ fun _ => ?_
 rw [e28]
 refine g53 hJ fun _ => ?_
 rw [e53]
 refine g71 hJ fun _ => ?_
 rw [e71]
 refine eqlI (cndI (fun _ => leqI (cndI (fun _ => lssI (hold.2 ?_)) fun h => absurd (Int.natCast_nonneg n) h)) fun h => absurd rfl h)
 rw [s71_1]
 show cnd (.bool (decide ((n : Int) < 100))) _ _
 refine cndI (fun _ => ?_) fun h => absurd (by omega : (n : Int) < 100) h
 show Good prog J 85 [vint n] _ _
 refine good85 hJ hn ?_
 refine retL_same (by simp [unk,strV]) ?_
 refine retL_same (by simp [unk,strV,pack]) ?_
 exact retL_same (by simp [unk,strV,pack]) hK
theorem callTa (hJ : Closed prog main J) {n : Nat} (hn : n < 100) (hK : K (strV (num2 n)) H) : callV prog (Good prog J) (.func (.func 28) ⟨[]⟩ ⟨[]⟩) [vint n] H K :=
 callCt (by kernel_rfl) (good28 hJ hn hK)
end
end Go.Proofs.YtcmgjbflljmphaaGreatDoor
namespace Go.Proofs.YtcmgjbflljmphaaGreatDoor
open Go.Conc Go.Proofs.Tryz
set_option maxRecDepth 100000
set_option maxHeartbeats 4000000
set_option linter.unusedVariables false
section
variable {main : Bool} {J : JT} {n0 : Nat} {h : List AObj} {K : Value → List AObj → Prop}
theorem at24 : prog.funcs[24]? = some f24 := by kernel_rfl
theorem body24 : f24.body = some (codeOf f24) := by kernel_rfl
def pl24 : Plans := [(2,false,.take 0 (.take 1 (.take 2 (.take 3 (.take 4 (.take 5 (.take 9 (.take 10 (.last 6 true (.last 7 true (.last 8 true (.take 14 (.last 11 true (.last 12 true (.last 13 true (.last 15 false (.take 16 (.last 17 false (.fin)))))))))))))))))))]
def ct24 : Cuts := .go
theorem pok24 : plansOk prog pl24 (codeOf f24) = true := by kernel_rfl
theorem e24 {a0 a1 : Value} : W prog J 29 h.length 24 (codeOf f24) (RG.mk (regs [a0,a1]) []) h (RetQ prog [.cell 4 23] h.length K) =
(aAlloc [(vint 0),(vint 0),(vint 0)] h fun v1 h2 =>
 aMin a1 [(vint 40)] fun v3 =>
 aMax (vint 2) [v3] fun v4 =>
 Good prog J 25 [a0,(vint 2),v4] h2 fun v5 h6 =>
 aFill [(vint 0),(vint 0),(vint 0)] [(1,1,v5)] fun c7 =>
 aAlloc [(vint 0),(vint 0),(vint 0)] h6 fun v8 h9 =>
 aStore 3 v8 (Value.agg ⟨c7⟩) h9 fun h10 =>
(∃ B,aOff v8 1 fun v11 =>
 aLoad false 1 v11 h10 fun v12 =>
 RdOk (some B) (ptrBlk v11) ∧ (aOff v8 1 fun v13 =>
 aLoad false 1 v13 h10 fun v14 =>
 RdOk (some B) (ptrBlk v13) ∧ (Good prog J 52 [a0,v14] h10 fun v15 h16 =>
 SameB (some B) h10 h16 ∧ ((((1 * 1 : Nat) ≤ 16777216 ∧ (1 : Nat) ≤ 16777216 ∧ List.length [(vint 0)] = 1) ∧ aFill (zrep [(vint 0)] 1) [(0,1,v15)] fun c17 =>
 aNewS 1 c17 h16 fun v18 h19 =>
 SameB (some B) h10 h19 ∧ (Good prog J 26 [a0,v12,v18] h19 fun v20 h21 =>
 SameB (some B) h10 h21 ∧ (aOff v8 0 fun v22 =>
 Good prog J 52 [a0,(vint 6)] h21 fun v23 h24 =>
 SameB (some B) h10 h24 ∧ ((((3 * 1 : Nat) ≤ 16777216 ∧ (3 : Nat) ≤ 16777216 ∧ List.length [(vint 0)] = 1) ∧ aFill (zrep [(vint 0)] 3) [(0,1,(vint 2)),(1,1,(vint 3)),(2,1,v23)] fun c25 =>
 aNewS 3 c25 h24 fun v26 h27 =>
 SameB (some B) h10 h27 ∧ (Good prog J 26 [a0,(vint 1),v26] h27 fun v28 h29 =>
 SameB (some B) h10 h29 ∧ (aStore 1 v22 v20 h29 fun h30 =>
 aOff v8 2 fun v31 =>
 aStore 1 v31 v28 h30 fun h32 =>
 aLoad true 3 v8 h32 fun v33 =>
 aStore 3 v1 v33 h32 fun h34 =>
 RetQ prog [.cell 4 23] h.length K .ret (RG.p (RG.p (RG.p (RG.p (RG.p (RG.p (RG.p (RG.p (RG.p (RG.p (RG.p (RG.p (RG.p (RG.p (RG.p (RG.p (RG.p (RG.p (RG.p (RG.p (RG.p (RG.p (RG.p (RG.p (RG.p (RG.mk (regs [a0,a1]) []) 4 v1) 6 a0) 7 a1) 8 v3) 9 v4) 10 v5) 11 (Value.agg ⟨c7⟩)) 5 v8) 12 a0) 13 v11) 14 v12) 15 a0) 16 v13) 17 v14) 21 a0) 22 a0) 18 v15) 19 v18) 20 v20) 26 v22) 23 v23) 24 v26) 25 v28) 27 v31) 28 v33) h34)))))))))))) := top_eq pok24 ct24 (by kernel_rfl)
theorem g24 (hJ : Closed prog main J) {a0 a1 : Value} (hs : heapOk h → W prog J 29 h.length 24 (codeOf f24) (RG.mk (regs [a0,a1]) []) h (RetQ prog [.cell 4 23] h.length K)) : Good prog J 24 [a0,a1] h K :=
 good_of_W hJ mixed at24 body24 (by kernel_rfl) (Nat.le_of_ble_eq_true rfl) hs
theorem at7 : prog.funcs[7]? = some f7 := by kernel_rfl
theorem body7 : f7.body = some (codeOf f7) := by kernel_rfl
def pl7 : Plans := [(5,false,.take 0 (.take 1 (.take 2 (.take 3 (.take 4 (.take 5 (.take 6 (.take 7 (.take 8 (.take 10 (.take 11 (.take 12 (.take 13 (.take 17 (.last 9 true (.last 14 true (.last 15 true (.last 16 true (.last 18 true (.take 19 (.last 20 true (.last 21 true (.take 22 (.last 23 false (.fin)))))))))))))))))))))))))]
def ct7 : Cuts := .go
theorem pok7 : plansOk prog pl7 (codeOf f7) = true := by kernel_rfl
theorem e7 {a0 a1 a2 : Value} : W prog J 45 h.length 7 (codeOf f7) (RG.mk (regs [a0,a1,a2]) []) h (RetQ prog [.cell 6 26] h.length K) =
(aAlloc [(vint 0),(vint 0),(vint 0),(Value.slice none 0 0)] h fun v1 h2 =>
 Good prog J 24 [a0,a2] h2 fun v3 h4 =>
 aFill [(vint 0),(vint 0),(vint 0),(Value.slice none 0 0)] [(0,3,v3)] fun c5 =>
 aAlloc [(vint 0),(vint 0),(vint 0),(Value.slice none 0 0)] h4 fun v6 h7 =>
 aStore 4 v6 (Value.agg ⟨c5⟩) h7 fun h8 =>
 aMin a1 [(vint 3)] fun v9 =>
 Good prog J 25 [a0,(vint 1),v9] h8 fun v10 h11 =>
 Sem J 45 h.length 7 (subC yp1 (codeOf f7)) (RG.p (RG.p (RG.p (RG.p (RG.p (RG.p (RG.p (RG.p (RG.p (RG.p (RG.p (RG.mk (regs [a0,a1,a2]) []) 6 v1) 9 a0) 10 a2) 11 v3) 12 (Value.agg ⟨c5⟩)) 7 v6) 13 a0) 14 a1) 15 v9) 16 v10) 8 v10) h11 (contX pl7 prog J 45 h.length 7 ct7 yp1 (codeOf f7) [] (RetQ prog [.cell 6 26] h.length K))) := top_eq pok7 ct7 (by kernel_rfl)
theorem g7 (hJ : Closed prog main J) {a0 a1 a2 : Value} (hs : heapOk h → W prog J 45 h.length 7 (codeOf f7) (RG.mk (regs [a0,a1,a2]) []) h (RetQ prog [.cell 6 26] h.length K)) : Good prog J 7 [a0,a1,a2] h K :=
 good_of_W hJ mixed at7 body7 (by kernel_rfl) (Nat.le_of_ble_eq_true rfl) hs
theorem s7_1 {f : RG} {nx0 : RG → List AObj → Prop} : W prog J 45 n0 7 (subC [1,1,0,1,0,0] (codeOf f7)) f h (thenK nx0 (contX pl7 prog J 45 n0 7 ct7 yp1 (codeOf f7) [] (RetQ prog [.cell 6 26] n0 K))) =
(aBin prog .gtr 3 (f.r 8) (vint 0) fun v1 =>
 cnd v1
((∃ B,aOff (f.r 7) 3 fun v2 =>
 aLoad false 1 v2 h fun v3 =>
 RdOk (some B) (ptrBlk v2) ∧ (aOff (f.r 7) 0 fun v4 =>
 aOff v4 1 fun v5 =>
 aLoad false 1 v5 h fun v6 =>
 RdOk (some B) (ptrBlk v5) ∧ (aBin prog .quo 3 v6 (vint 2) fun v7 =>
 aMax (vint 1) [v7] fun v8 =>
 aOff (f.r 7) 0 fun v9 =>
 aOff v9 1 fun v10 =>
 aLoad false 1 v10 h fun v11 =>
 RdOk (some B) (ptrBlk v10) ∧ (Good prog J 25 [(f.r 0),(vint 1),v8] h fun v12 h13 =>
 SameB (some B) h h13 ∧ (Good prog J 25 [(f.r 0),(vint 1),v11] h13 fun v14 h15 =>
 SameB (some B) h h15 ∧ ((((3 * 1 : Nat) ≤ 16777216 ∧ (3 : Nat) ≤ 16777216 ∧ List.length [(vint 0)] = 1) ∧ aFill (zrep [(vint 0)] 3) [(0,1,(vint 2)),(1,1,v12),(2,1,v14)] fun c16 =>
 aNewS 3 c16 h15 fun v17 h18 =>
 SameB (some B) h h18 ∧ (Good prog J 26 [(f.r 0),(vint 1),v17] h18 fun v19 h20 =>
 SameB (some B) h h20 ∧ (Good prog J 25 [(f.r 0),(vint 1),(vint 6)] h20 fun v21 h22 =>
 SameB (some B) h h22 ∧ (aFill [(vint 0),(vint 0)] [(0,1,v19),(1,1,v21)] fun c23 =>
(((1 * 2 : Nat) ≤ 16777216 ∧ (1 : Nat) ≤ 16777216 ∧ List.length [(vint 0),(vint 0)] = 2) ∧ aFill (zrep [(vint 0),(vint 0)] 1) [(0,2,(Value.agg ⟨c23⟩))] fun c24 =>
 aNewS 1 c24 h22 fun v25 h26 =>
 SameB (some B) h h26 ∧ (((List.length [(vint 0),(vint 0)] = 2 ∧ 0 < (2 : Nat) ∧ 0 < (16 : Nat) ∧ (16 : Nat) ≤ 1024) ∧ aApp 2 v3 v25 h26 fun v27 h28 =>
 SameB (some B) h h28 ∧ (aOff (f.r 7) 3 fun v29 =>
 aStore 1 v29 v27 h28 fun h30 =>
 aBin prog .sub 3 (f.r 8) (vint 1) fun v31 =>
 nx0 (RG.p (RG.p (RG.p (RG.p (RG.p (RG.p (RG.p (RG.p (RG.p (RG.p (RG.p (RG.p (RG.p (RG.p (RG.p (RG.p (RG.p (RG.p (RG.p (RG.p (RG.p (RG.p (RG.p (RG.p (RG.p (RG.p (RG.p (RG.p f 17 (f.r 8)) 18 v1) 21 v2) 22 v3) 23 (f.r 0)) 24 (f.r 0)) 25 v4) 26 v5) 27 v6) 28 v7) 29 v8) 31 (f.r 0)) 32 v9) 33 v10) 34 v11) 38 (f.r 0)) 30 v12) 35 v14) 36 v17) 37 v19) 39 v21) 40 (Value.agg ⟨c23⟩)) 41 v25) 42 v27) 43 v29) 19 (f.r 8)) 20 v31) 8 v31) h30)))))))))))))))
(aLoad true 4 (f.r 7) h fun v32 =>
 aStore 4 (f.r 6) v32 h fun h33 =>
 RetQ prog [.cell 6 26] n0 K .ret (RG.p (RG.p (RG.p f 17 (f.r 8)) 18 v1) 44 v32) h33)) := sub_eq pok7 ct7 (by kernel_rfl)
theorem l7_1 (hJ : Closed prog main J) {S : Type} (μ : S → Nat) (I : S → RG → List AObj → Prop) (hI : ∀ s f h,I s f h → heapOk h → n0 ≤ h.length → W prog J 45 n0 7 (subC [1,1,0,1,0,0] (codeOf f7)) f h (thenK (Nx n0 μ I s) (contX pl7 prog J 45 n0 7 ct7 yp1 (codeOf f7) [] (RetQ prog [.cell 6 26] n0 K))))
 {s : S} {f : RG} (hi : Gets n0 I s f h) : Sem J 45 n0 7 (subC yp1 (codeOf f7)) f h (contX pl7 prog J 45 n0 7 ct7 yp1 (codeOf f7) [] (RetQ prog [.cell 6 26] n0 K)) :=
 loop_rule hJ mixed (b := subC [1,1,0,1,0,0] (codeOf f7)) (by kernel_rfl) μ I hI hi
end
end Go.Proofs.YtcmgjbflljmphaaGreatDoor
namespace Go.Proofs.YtcmgjbflljmphaaGreatDoor
open Go.Conc Go.Proofs.Tryz
def drinkOf (t : Tro) (who : Int) : Int := if 0 ≤ who then (droAt t who.toNat).drinks else 0
def nextL (t : Tro) (who now : Int) : Int := min t.well.holds (now - min now (drinkOf t who) + t.well.fill)
def turnOf (r : List Int) (h : Nat) : Int := r.getD (h % r.length) 0
def lvl (t : Tro) (r : List Int) : Nat → Int
 | 0 => t.well.now
 | h + 1 => nextL t (turnOf r h) (lvl t r h)
def dry (t : Tro) (r : List Int) (h : Nat) : Prop := lvl t r h < drinkOf t (turnOf r h)
instance (t : Tro) (r : List Int) (h : Nat) : Decidable (dry t r h) := by unfold dry; infer_instance
structure TroFine (t : Tro) : Prop where
 holds : 1 ≤ t.well.holds ∧ t.well.holds ≤ 40
 now : 0 ≤ t.well.now ∧ t.well.now ≤ t.well.holds
 fill : 0 ≤ t.well.fill ∧ t.well.fill ≤ 20
 len : 1 ≤ t.flocks.length ∧ t.flocks.length ≤ 3
 dro : ∀ d ∈ t.flocks,droOk d
theorem troE_fine {t : Tro} (h : troE t = 0) : TroFine t := by
 obtain ⟨⟨a,b,c⟩,d,e⟩ := troE_well h
 exact ⟨a,b,c,d,e⟩
theorem fine_troE {t : Tro} (f : TroFine t) : troE t = 0 := by
 have h1 : welE t.well = 0 := by unfold welE; rw [if_pos ⟨f.holds,f.now,f.fill⟩]
 have h2 : fewE t.flocks.length 1 3 = 0 := by
  have := f.len
  unfold fewE
  rw [if_neg (by omega),if_neg (by omega)]
 unfold troE
 rw [if_neg (by omega),if_neg (by omega),if_pos f.dro]
section
variable {t x : Tro} {r : List Int} {h k a b : Nat}
def occ (r : List Int) (f : Int) (i : Nat) : Prop := turnOf r i = f
instance (r : List Int) (f : Int) (i : Nat) : Decidable (occ r f i) := by unfold occ; infer_instance
end
section
variable {t x : Tro} {r r' : List Int}
def later (r : List Int) (k : Nat) : List Int := r.drop k ++ r.take k
end
end Go.Proofs.YtcmgjbflljmphaaGreatDoor
namespace Go.Proofs.YtcmgjbflljmphaaGreatDoor
open Go.Conc Go.Proofs.Tryz
set_option maxRecDepth 100000
section
variable {main : Bool} {J : JT} {h H : List AObj} {K : Value → List AObj → Prop} {KV : Value → Prop} {HL : List AObj → Prop} {n0 : Nat} {ns : List Int} {k : Nat}
theorem HX.lt (a : HX h H ns k) : h.length < H.length := by
 obtain ⟨nv,k1,s,rest,rfl,_⟩ := a
 rw [hf_len]
 omega
theorem sb1 {X : List Nat} {p : Nat} {H H' : List AObj} (S : SameX X H H') (hp : p < H.length) (hX : p ∉ X) : SameB (some [p]) H H' := fun b hb => by
 simp at hb
 subst hb
 exact S.2 _ hp hX
theorem quoI {t : TypeId} {a b : Int} (ha : 0 ≤ a ∧ a ≤ 1000000) (hb : 0 < b) (hk : KV (vint (a / b))) : aBin prog .quo t (vint a) (vint b) KV := by
 have h1 : Int.tdiv a b = a / b := Int.tdiv_eq_ediv_of_nonneg ha.1
 have h2 : 0 ≤ a / b := Int.ediv_nonneg ha.1 (by omega)
 have h3 : a / b ≤ a := Int.ediv_le_self _ ha.1
 simp only [aBin,aInt,true_and]
 rw [h1,wrap64 (by omega) (by omega)]
 exact ⟨by omega,hk⟩
theorem ofX (hJ : Closed prog main J) (a : HX h H ns k) (hk : k < 1000000) {x : Int} {others : List Int} {p n c : Nat} (hp : H[p]? = some (.cells (others.map vint) true 0)) (hne : p ≠ h.length) (hn : others.length = n) (hl : n < 1000)
  (hK : ∀ y H',(y = x ∨ y ∈ others) → SameX [h.length] H H' → H'.length = H.length → HX h H' ns (k + 1) → K (vint y) H') : Good prog J 26 [ptr h.length 0,vint x,.slice (some ⟨p,0,none⟩) n c] H K := by
 subst hn
 obtain ⟨nv,k1,s,rest,rfl,b1,b2,b3⟩ := a
 refine good26 hJ (hf_hand b3.list b3.sane (by omega) b2.1 b2.2) (others := others) (fun h' hd => ?_) (by omega) fun y h1 hy hd => ?_
 ·obtain ⟨k',s',c1,c2,c3,rfl⟩ := hf_dealt hd
  have S := hf_same (h := h) (nv := nv) (k1 := k1) (k2 := k') (s1 := s) (s2 := s') (rest := rest) (g := [])
  rw [List.append_nil] at S
  exact sli_new (wr := true) (sz := 0) (S.get hp (by simpa using hne)) (by simp) (kn_ints _)
 ·obtain ⟨k',s',c1,c2,c3,rfl⟩ := hf_dealt hd
  have S := hf_same (h := h) (nv := nv) (k1 := k1) (k2 := k') (s1 := s) (s2 := s') (rest := rest) (g := [])
  rw [List.append_nil] at S
  exact hK y _ hy S (by simp [hf_len]) ⟨nv,k',s',rest,rfl,by omega,⟨c2,c3⟩,b3⟩
structure WelOk (B : Int) (w : Wel) : Prop where
 holds : 2 ≤ w.holds ∧ w.holds ≤ B ∧ w.holds ≤ 40
 now : 0 ≤ w.now ∧ w.now ≤ w.holds
 fill : 0 ≤ w.fill ∧ w.fill ≤ 6
theorem good24 (hJ : Closed prog main J) (a : HX h H ns k) (hk : k < 500000) {B : Int} (hB : 2 ≤ B ∧ B ≤ 1000)
  (hK : ∀ w H',WelOk B w → SameX [h.length] H H' → HX h H' ns (k + 5) → K w.val H') : Good prog J 24 [ptr h.length 0,vint B] H K := by
 refine g24 hJ fun ok => ?_
 rw [e24]
 have hlt := a.lt
 refine qAl fun H1 p1 e1 S1 c1 l1 => minI (maxI ?_)
 have a1 := a.same S1 (by simp)
 refine amX hJ a1 (by omega) (by omega) (by omega) fun hd H2 b1 b2 S2 l2 a2 => ?_
 refine fill_one rfl rfl rfl (by decide) (fillI ?_)
 refine qAl fun H3 p3 e3 S3 c3 l3 => qStA (c := [vint 0,vint hd,vint 0]) c3 rfl rfl rfl fun H4 S4 c4 l4 => ?_
 have a4 := (a2.same S3 (by simp)).same S4 (by simp; omega)
 refine ⟨[p3],offI (ldI (v := vint hd) c4 rfl rfl ⟨by simp [RdOk,ptrBlk,ptr],offI (ldI (v := vint hd) c4 rfl rfl ⟨by simp [RdOk,ptrBlk,ptr],?_⟩)⟩)⟩
 have hp4 : p3 < H4.length := lt_of_get c4
 refine upX hJ a4 (by omega) (by omega) fun now H5 d1 d2 S5 l5 a5 => ⟨sb1 S5 hp4 (by simp; omega),⟨by decide,fill_one rfl rfl rfl (by decide) (fillI (qNew fun H6 p6 e6 S6 c6 l6 => ?_))⟩⟩
 have c6 : H6[p6]? = some (.cells ([now].map vint) true 0) := c6
 have T6 : SameX [h.length] H4 H6 := S5.trans S6.weak0
 refine ⟨sb1 T6 hp4 (by simp; omega),?_⟩
 have a6 := a5.same S6 (by simp)
 refine ofX hJ a6 (by omega) c6 (by omega) rfl (by simp) fun nw H7 m7 S7 l7 a7 => ?_
 have T7 : SameX [h.length] H4 H7 := T6.trans S7
 refine ⟨sb1 T7 hp4 (by simp; omega),offI ?_⟩
 refine upX hJ a7 (by omega) (by omega) fun f0 H8 g1 g2 S8 l8 a8 => ?_
 have T8 : SameX [h.length] H4 H8 := T7.trans S8
 refine ⟨sb1 T8 hp4 (by simp; omega),⟨by decide,fill_one rfl rfl rfl (by decide) (fill_one rfl rfl rfl (by decide) (fill_one rfl rfl rfl (by decide) (fillI (qNew fun H9 p9 e9 S9 c9 l9 => ?_))))⟩⟩
 have c9 : H9[p9]? = some (.cells ([2,3,f0].map vint) true 0) := c9
 have T9 : SameX [h.length] H4 H9 := T8.trans S9.weak0
 refine ⟨sb1 T9 hp4 (by simp; omega),?_⟩
 have hh := a8.lt
 have a9 := a8.same S9 (by simp)
 refine ofX hJ a9 (by omega) c9 (by omega) rfl (by simp) fun fl H10 m10 S10 l10 a10 => ?_
 have T10 : SameX [h.length] H4 H10 := T9.trans S10
 refine ⟨sb1 T10 hp4 (by simp; omega),?_⟩
 refine qSt (T10.get c4 (by simp; omega)) (by simp) rfl rfl fun H11 S11 c11 l11 => offI (qSt c11 (by simp) rfl rfl fun H12 S12 c12 l12 => ?_)
 refine load_part (c := [vint nw,vint hd,vint fl]) c12 (by simp) rfl rfl ?_
 have T1 : SameX [h.length] H H1 := S1.weak0
 have T4 : SameX [h.length] H H4 := ((T1.trans S2).trans S3.weak0).thru S4 (by simp; omega)
 have T12 : SameX [h.length] H H12 := ((T4.trans T10).thru S11 (by simp; omega)).thru S12 (by simp; omega)
 have c1' : H12[p1]? = some (.cells [vint 0,vint 0,vint 0] true 0) := S12.get (S11.get (T10.get (S4.get (S3.get (S2.get c1 (by simp; omega)) (by simp)) (by simp; omega)) (by simp; omega)) (by simp; omega)) (by simp; omega)
 refine qStA (c := [vint nw,vint hd,vint fl]) c1' rfl rfl rfl fun H13 S13 c13 l13 => ?_
 refine retQ_same rfl (resW_cell (gg := true) (s := 3) (by kernel_rfl) (load_part (c := [vint nw,vint hd,vint fl]) c13 (by simp) rfl rfl (resW_nil ?_)))
 refine hK ⟨nw,hd,fl⟩ H13 ⟨?_,?_,?_⟩ (T12.thru S13 (by simp; omega)) (((a10.same S11 (by simp; omega)).same S12 (by simp; omega)).same S13 (by simp; omega))
 ·show 2 ≤ hd ∧ hd ≤ B ∧ hd ≤ 40
  omega
 ·show 0 ≤ nw ∧ nw ≤ hd
  rcases m7 with rfl | m7
  ·omega
  ·simp at m7
   omega
 ·show 0 ≤ fl ∧ fl ≤ 6
  rcases m10 with rfl | m10
  ·omega
  ·simp at m10
   omega
structure TroOk (F B : Int) (t : Tro) : Prop where
 well : WelOk B t.well
 len : 1 ≤ t.flocks.length ∧ (t.flocks.length : Int) ≤ F
 dro : ∀ d ∈ t.flocks,(1 ≤ d.drinks ∧ d.drinks ≤ 40) ∧ (1 ≤ d.every ∧ d.every ≤ 6)
theorem TroOk.fine {F B : Int} {t : Tro} (o : TroOk F B t) (hF : F ≤ 3) : TroFine t := by
 obtain ⟨⟨h1,h2,h3⟩,h4,h5⟩ := o
 refine ⟨by omega,h2,by omega,by omega,fun d hd => ?_⟩
 have := h5 d hd
 exact ⟨this.1,by omega⟩
structure TroO (h H : List AObj) (t : Tro) (fv : Value) (o : Option Nat) : Prop where
 fl : OwnX H 2 (t.flocks.flatMap Dro.cells) t.flocks.length fv o
 b : ∀ i,o = some i → h.length < i
theorem TroO.at {t : Tro} {fv : Value} {o : Option Nat} (a : TroO h H t fv o) : TroAt H (.agg ⟨troCells t fv⟩) t fv := ⟨rfl,ownX_sli a.fl⟩
theorem TroO.same {H' : List AObj} {t : Tro} {fv : Value} {o : Option Nat} {X : List Nat} (a : TroO h H t fv o) (S : SameX X H H') (hX : ∀ i,o = some i → i ∉ X) : TroO h H' t fv o := ⟨ownX_keep a.fl S hX,a.b⟩
theorem good7 (hJ : Closed prog main J) (a : HX h H ns k) (hk : k < 400000) {F B : Int} (hF : 1 ≤ F ∧ F ≤ 3) (hB : 2 ≤ B ∧ B ≤ 40)
  (hK : ∀ t fv o H',TroOk F B t → SameX [h.length] H H' → HX h H' ns (k + 30) → TroO h H' t fv o → K (.agg ⟨troCells t fv⟩) H') : Good prog J 7 [ptr h.length 0,vint F,vint B] H K := by
 refine g7 hJ fun ok => ?_
 rw [e7]
 have hlt := a.lt
 refine qAl fun H1 p1 e1 S1 c1 l1 => ?_
 have a1 := a.same S1 (by simp)
 refine good24 hJ a1 (by omega) (by omega) fun w H2 ow S2 a2 => ?_
 refine fill_one rfl rfl rfl (by decide) (fillI ?_)
 have hl2 := S2.1
 refine qAl fun H3 p3 e3 S3 c3 l3 => qStA (c := troCells ⟨w,[]⟩ (.slice none 0 0)) c3 rfl rfl rfl fun H4 S4 c4 l4 => minI ?_
 have a4 := (a2.same S3 (by simp)).same S4 (by simp; omega)
 refine amX hJ a4 (by omega) (by omega) (by omega) fun i0 H5 b1 b2 S5 l5 a5 => ?_
 have T4 : SameX [h.length] H H4 := ((S1.weak0.trans S2).trans S3.weak0).thru S4 (by simp; omega)
 have T5 : SameX [h.length] H H5 := T4.trans S5
 have c1' : H5[p1]? = some (.cells (troCells ⟨⟨0,0,0⟩,[]⟩ (.slice none 0 0)) true 0) := S5.get (S4.get (S3.get (S2.get c1 (by simp; omega)) (by simp)) (by simp; omega)) (by simp; omega)
 have c3' : H5[p3]? = some (.cells (troCells ⟨w,[]⟩ (.slice none 0 0)) true 0) := S5.get c4 (by simp; omega)
 obtain ⟨⟨w1,w2,w3⟩,w4,w5⟩ := id ow
 refine l7_1 hJ (fun i : Nat => i) (fun i f H' => ∃ ds fv o,SameX [h.length] H H' ∧ HX h H' ns (k + 30 - 5 * i) ∧ i ≤ 3 ∧ (i0 = i + List.length ds) ∧ (∀ d ∈ ds,(1 ≤ d.drinks ∧ d.drinks ≤ 40) ∧ (1 ≤ d.every ∧ d.every ≤ 6)) ∧
   TroO h H' ⟨w,ds⟩ fv o ∧ H'[p3]? = some (.cells (troCells ⟨w,ds⟩ fv) true 0) ∧ H'[p1]? = some (.cells (troCells ⟨⟨0,0,0⟩,[]⟩ (.slice none 0 0)) true 0) ∧ (∀ j,o = some j → j ≠ p1 ∧ j ≠ p3 ∧ H.length ≤ j) ∧ f.ds = [] ∧ f.r 0 = ptr h.length 0 ∧ f.r 6 = ptr p1 0 ∧ f.r 7 = ptr p3 0 ∧ f.r 8 = vint (i : Nat)) ?_ (s := i0.toNat)
  (.inl ⟨[],.slice none 0 0,none,T5,a5.mono (by omega),by omega,by simp; omega,by simp,⟨⟨rfl,rfl,.inl ⟨rfl,rfl,rfl⟩⟩,by simp⟩,c3',c1',by simp,rfl,rfl,rfl,rfl,by show vint i0 = vint _; congr 1; omega⟩)
 rintro i f Hc ⟨ds,fv,o,Sc,ac,hi,hsum,hds,TO,cp3,cp1,hoj,fds,r0,r6,r7,r8⟩ okc hnc
 rw [s7_1,r0,r6,r7,r8]
 have hp3 := lt_of_get cp3
 have hp1 := lt_of_get cp1
 refine gtrI (cndI (fun hpos => ?_) fun hz => ?_)
 ·have kf := (ownX_val TO.fl).2.2
  refine ⟨[p3],offI (ldI (v := fv) cp3 rfl kf ⟨by simp [RdOk,ptrBlk,ptr],offI (offI (ldI (v := vint w.holds) cp3 rfl rfl ⟨by simp [RdOk,ptrBlk,ptr],quoI (by omega) (by omega) (maxI (offI (offI (ldI (v := vint w.holds) cp3 rfl rfl ⟨by simp [RdOk,ptrBlk,ptr],?_⟩))))⟩))⟩)⟩
  have hq : 0 ≤ w.holds / 2 ∧ w.holds / 2 ≤ w.holds := ⟨Int.ediv_nonneg (by omega) (by omega),Int.ediv_le_self _ (by omega)⟩
  refine amX hJ ac (by omega) (by omega) (by omega) fun x1 Ha q1 q2 Sa la aa => ⟨sb1 Sa hp3 (by simp; omega),?_⟩
  refine amX hJ aa (by omega) (by omega) (by omega) fun x2 Hb q3 q4 Sb lb ab => ⟨sb1 (Sa.trans Sb) hp3 (by simp; omega),?_⟩
  refine ⟨by decide,fill_one rfl rfl rfl (by decide) (fill_one rfl rfl rfl (by decide) (fill_one rfl rfl rfl (Nat.le_of_ble_eq_true rfl) (fillI (qNew fun Hd pd ed Sd cd ld => ?_))))⟩
  have cd : Hd[pd]? = some (.cells ([2,x1,x2].map vint) true 0) := cd
  have Td : SameX [h.length] Hc Hd := (Sa.trans Sb).trans Sd.weak0
  have hlb := ab.lt
  have ad := ab.same Sd (by simp)
  refine ⟨sb1 Td hp3 (by simp; omega),?_⟩
  refine ofX hJ ad (by omega) cd (by omega) rfl (by simp) fun dr He me Se le ae => ⟨sb1 (Td.trans Se) hp3 (by simp; omega),?_⟩
  refine amX hJ ae (by omega) (by omega) (by omega) fun ev Hf q5 q6 Sf lf af => ?_
  have Tf : SameX [h.length] Hc Hf := (Td.trans Se).trans Sf
  refine ⟨sb1 Tf hp3 (by simp; omega),?_⟩
  refine fill_one rfl rfl rfl (by decide) (fill_one rfl rfl rfl (Nat.le_of_ble_eq_true rfl) (fillI ?_))
  refine ⟨by decide,fill_one (l := [vint dr,vint ev]) rfl rfl rfl (Nat.le_of_ble_eq_true rfl) (fillI (qNew fun Hg pg eg Sg cg lg => ?_))⟩
  have cg : Hg[pg]? = some (.cells [vint dr,vint ev] true 0) := cg
  have Tg : SameX [h.length] Hc Hg := Tf.trans Sg.weak0
  refine ⟨sb1 Tg hp3 (by simp; omega),⟨by decide,?_⟩⟩
  have TOg := TO.same Tg (fun j hj => by have := TO.b j hj; simp; omega)
  have hdl : ds.length ≤ 3 := by omega
  refine ownX_more TOg.fl (by omega) (by show ds.length < 100000; omega) (ownX_sli (ownX_new (s := 2) (n := 1) (l := [vint dr,vint ev]) cg rfl rfl)) fun fv' Hh ph eh Oh Sh => ?_
  have hlc := Tg.1
  have Th : SameX (h.length :: o.toList) Hc Hh := (Tg.weak (by simp)).trans (Sh.weak fun x hx => List.mem_cons_of_mem _ hx)
  have hno : ∀ b,b = p1 ∨ b = p3 → b ∉ o.toList := fun b hb hm => by
   have := hoj b (by simpa using hm)
   omega
  refine ⟨sb1 Th hp3 (by simp only [List.mem_cons,not_or]; exact ⟨by omega,hno p3 (.inr rfl)⟩),offI ?_⟩
  refine qSt (Th.get cp3 (by simp only [List.mem_cons,not_or]; exact ⟨by omega,hno p3 (.inr rfl)⟩)) (by simp [troCells]) (ownX_val Oh).1 (ownX_val Oh).2.1 fun Hi Si ci li => subI (by omega) ?_
  refine ⟨i - 1,by dsimp only; omega,.inl ⟨ds ++ [⟨dr,ev⟩],fv',some ph,?_,?_,by omega,by simp; omega,fun d hd => ?_,⟨ownX_keep ?_ Si (by intro j hj; cases hj; simp; omega),fun j hj => by cases hj; omega⟩,ci,?_,fun j hj => by cases hj; omega,fds,r0,r6,r7,by show vint _ = vint _; congr 1; omega⟩⟩
  ·refine ((Sc.trans Tg).thru Sh ?_).thru Si (by simp; omega)
   intro y hy
   have hy' : o = some y := by simpa using hy
   exact .inr (hoj y hy').2.2
  ·refine HX.mono (k := k + 30 - 5 * i + 5) (HX.same (HX.same ((af.same Sg (by simp)).mono (by omega)) Sh ?_) Si (by simp; omega)) (by omega)
   intro y hy
   exact TO.b y (by simpa using hy)
  ·rcases List.mem_append.1 hd with hd | hd
   ·exact hds d hd
   ·have : d = ⟨dr,ev⟩ := by simpa using hd
    subst this
    refine ⟨?_,by show 1 ≤ ev ∧ ev ≤ 6; omega⟩
    show 1 ≤ dr ∧ dr ≤ 40
    rcases me with rfl | me
    ·omega
    ·simp at me
     omega
  ·simpa [List.flatMap_append,Dro.cells] using Oh
  ·exact Si.get (Th.get cp1 (by simp only [List.mem_cons,not_or]; exact ⟨by omega,hno p1 (.inl rfl)⟩)) (by simp; omega)
 ·have hi0 : i = 0 := by omega
  subst hi0
  have kf := (ownX_val TO.fl).2
  have k4 : (troCells ⟨w,ds⟩ fv).all one = true ∧ kn (troCells ⟨w,ds⟩ fv) = true := ⟨tro_one TO.at,tro_kn TO.at⟩
  refine load_part (c := troCells ⟨w,ds⟩ fv) cp3 (by simp [troCells]) rfl k4.2 ?_
  refine qStA (c := troCells ⟨w,ds⟩ fv) cp1 rfl rfl k4.1 fun Hz Sz cz lz => ?_
  refine retQ_same fds (resW_cell (gg := true) (s := 4) (by kernel_rfl) ?_)
  show aLoad true 4 (f.r 6) Hz _
  rw [r6]
  refine load_part (c := troCells ⟨w,ds⟩ fv) cz (by simp [troCells]) rfl k4.2 (resW_nil ?_)
  refine hK ⟨w,ds⟩ fv o Hz ⟨ow,?_,hds⟩ (Sc.thru Sz (by simp; omega)) ((ac.same Sz (by simp; omega)).mono (by omega)) (TO.same Sz fun j hj => by have := hoj j hj; simp; omega)
  show 1 ≤ ds.length ∧ (ds.length : Int) ≤ F
  omega
end
def droT (d : Dro) : List UInt8 := [102,108,111,99,107,32,45] ++ num2 d.drinks.toNat ++ [32,64] ++ num2 d.every.toNat ++ [10]
def welT (w : Wel) : List UInt8 := [119,101,108,108,32] ++ num2 w.now.toNat ++ [47] ++ num2 w.holds.toNat ++ [32,43] ++ num2 w.fill.toNat ++ [10]
def troT (t : Tro) : List UInt8 := welT t.well ++ t.flocks.flatMap droT ++ [116,114,111,117,103,104,10]
theorem droT_len (d : Dro) : (droT d).length ≤ 14 := by
 have := num2_len d.drinks.toNat
 have := num2_len d.every.toNat
 simp only [droT,List.length_append,List.length_cons,List.length_nil]
 omega
theorem welT_len (w : Wel) : (welT w).length ≤ 15 := by
 have := num2_len w.now.toNat
 have := num2_len w.holds.toNat
 have := num2_len w.fill.toNat
 simp only [welT,List.length_append,List.length_cons,List.length_nil]
 omega
theorem flT_len (l : List Dro) : (l.flatMap droT).length ≤ 14 * l.length := by
 induction l with
 | nil => simp
 | cons d l ih =>
  have := droT_len d
  rw [List.flatMap_cons,List.length_append,List.length_cons]
  omega
section
variable {main : Bool} {J : JT} {h H : List AObj} {K : Value → List AObj → Prop} {KV : Value → Prop}
theorem callN (hJ : Closed prog main J) {n : Int} (hn : 0 ≤ n ∧ n < 100) (hK : K (strV (num2 n.toNat)) H) : callV prog (Good prog J) (.func (.func 28) ⟨[]⟩ ⟨[]⟩) [vint n] H K := by
 have := callTa hJ (n := n.toNat) (H := H) (K := K) (by omega) hK
 rw [show ((n.toNat : Nat) : Int) = n by omega] at this
 exact this
theorem good9 (hJ : Closed prog main J) {v fv : Value} {t : Tro} (ht : TroAt H v t fv) (hz : troE t = 0) (hK : ∀ H',SameX [] H H' → K (.tuple ⟨[strV (troT t),vint 0]⟩) H') : Good prog J 9 [v] H K := by
 have f := troE_fine hz
 obtain ⟨f1,f2,f3,f4,f5⟩ := id f
 refine g9 hJ fun ok => ?_
 rw [e9,ht.val]
 refine qBox (tro_one ht) fun H1 p1 e1 S1 c1 l1 => ?_
 have tk := tro_kn ht
 have b1 := lt_of_get c1
 refine load_part (c := troCells t fv) c1 (by simp [troCells]) rfl tk ?_
 refine good27 hJ ⟨rfl,S1.sli ht.fl (by simp)⟩ (neqI (cndI (fun g1 => absurd hz g1) fun _ => ?_))
 have r0 : SameB (some [p1]) H1 H1 := fun _ _ => rfl
 have rd : ∀ {o : Nat},RdOk (some [p1]) (ptrBlk (ptr p1 o)) := by simp [RdOk,ptrBlk]
 have fk : kn1 fv = true := (sli_val ht.fl).2.2
 have wl := welT_len t.well
 refine ⟨[p1],offI (offI (ldI (v := vint t.well.now) c1 rfl rfl ⟨rd,offI (offI (ldI (v := vint t.well.holds) c1 rfl rfl ⟨rd,offI (offI (ldI (v := vint t.well.fill) c1 rfl rfl ⟨rd,?_⟩))⟩))⟩))⟩
 have l2 := num2_len t.well.now.toNat
 have l3 := num2_len t.well.holds.toNat
 have l4 := num2_len t.well.fill.toNat
 refine callN hJ (by omega) ⟨r0,catC (u := [119,101,108,108,32]) (by simp; omega) (catC (v := [47]) (by simp; omega) ?_)⟩
 refine callN hJ (by omega) ⟨r0,catC (by simp; omega) (catC (v := [32,43]) (by simp; omega) ?_)⟩
 refine callN hJ (by omega) ⟨r0,catC (by simp; omega) (catC (v := [10]) (by simp; omega) ?_)⟩
 refine offI (ldI (v := fv) c1 rfl fk ?_)
 have hl1 : SliE H1 fv 2 Dro.cells t.flocks := S1.sli ht.fl (by simp)
 refine lenI hl1 ?_
 refine l9_1 hJ (fun i : Nat => t.flocks.length - i) (fun i F H' => i ≤ t.flocks.length ∧ SameX [] H1 H' ∧ F.ds = [] ∧ F.r 36 = fv ∧ F.r 37 = vint (t.flocks.length : Nat) ∧ F.r 38 = vint (i : Nat) ∧ F.r 5 = .func (.func 28) ⟨[]⟩ ⟨[]⟩ ∧ F.r 6 = strV (welT t.well ++ (t.flocks.take i).flatMap droT)) ?_ (s := 0)
  (.inl ⟨Nat.zero_le _,SameX.refl,rfl,rfl,rfl,rfl,rfl,by show strV _ = strV _; simp [welT]⟩)
 rintro i F H' ⟨hi,S,ds,r36,r37,r38,r5,r6⟩ okc hnc
 rw [s9_1,r36,r37,r38,r5,r6,ds]
 have hlT := flT_len (t.flocks.take i)
 have hlt' : (t.flocks.take i).length ≤ 3 := by rw [List.length_take]; omega
 refine lssI (cndI (fun hlt => ?_) fun hge => ?_)
 ·have hil : i < t.flocks.length := by omega
  obtain ⟨b,o,cs,wr,sz,hidx,hb,hos,htk,hkn⟩ := sliE_elem (s := 2) (fun _ => rfl) (by decide) (S.sli hl1 (by simp)) hil
  have hd := f5 _ (List.getElem_mem hil)
  have htake : (t.flocks.take (i + 1)).flatMap droT = (t.flocks.take i).flatMap droT ++ droT t.flocks[i] := by
   rw [List.take_succ_eq_append_getElem hil,List.flatMap_append]
   simp
  generalize t.flocks[i] = d at htk hd htake
  refine hidx _ (load_part (c := d.cells) hb hos htk rfl (qAl fun H4 p4 e4 S4 c4 l4 => qStA (c := d.cells) c4 rfl rfl rfl fun H5 S5 c5 l5 => ?_))
  have q0 : SameB (some [p4]) H5 H5 := fun _ _ => rfl
  have rq : ∀ {o : Nat},RdOk (some [p4]) (ptrBlk (ptr p4 o)) := by simp [RdOk,ptrBlk]
  refine ⟨[p4],offI (ldI (v := vint d.drinks) c5 rfl rfl ⟨rq,offI (ldI (v := vint d.every) c5 rfl rfl ⟨rq,?_⟩)⟩)⟩
  have l5 := num2_len d.drinks.toNat
  have l6 := num2_len d.every.toNat
  obtain ⟨d1,d2⟩ := hd
  refine callN hJ (by omega) ⟨q0,catC (u := [102,108,111,99,107,32,45]) (by simp; omega) (catC (v := [32,64]) (by simp; omega) ?_)⟩
  refine callN hJ (by omega) ⟨q0,catC (by simp; omega) (catC (v := [10]) (by simp; omega) (catC (by simp only [List.length_append,List.length_cons,List.length_nil]; omega) (addI (by omega) ?_)))⟩
  refine ⟨i + 1,by dsimp only; omega,.inl ⟨by omega,(S.trans S4).thru S5 (by have := S.1; simp; omega),ds,r36,r37,by show vint _ = vint _; congr 1,r5,?_⟩⟩
  show strV _ = strV _
  rw [htake]
  simp [droT]
 ·have : i = t.flocks.length := by omega
  subst this
  rw [List.take_length] at hlT ⊢
  refine catC (v := [116,114,111,117,103,104,10]) (by simp only [List.length_append,List.length_cons,List.length_nil]; omega) (retL_same (nu2 (by simp [unk,strV]) (by simp [unk])) (hK H' (S1.trans S)))
end
end Go.Proofs.YtcmgjbflljmphaaGreatDoor
namespace Go.Proofs.YtcmgjbflljmphaaGreatDoor
set_option maxRecDepth 100000
def wWell : List UInt8 := [119,101,108,108]
def wFlock : List UInt8 := [102,108,111,99,107]
def wTrough : List UInt8 := [116,114,111,117,103,104]
def dig2 (s : List UInt8) : Bool := decide (1 ≤ s.length) && decide (s.length ≤ 2) && !(s.head? == some 48 && decide (1 < s.length)) && s.all isDig
def unsT (s : List UInt8) : Option Int := if dig2 s then some (valB s) else none
def sgnT (c : UInt8) : List UInt8 → Option Int
 | x :: r => if x = c then unsT r else none
 | [] => none
def welR (a b : List UInt8) : Option Wel :=
 match partsB 47 a with
 | [x,y] => (unsT x).bind fun n => (unsT y).bind fun h => (sgnT 43 b).map fun f => ⟨n,h,f⟩
 | _ => none
def droR (a b : List UInt8) : Option Dro := (sgnT 45 a).bind fun d => (sgnT 64 b).map fun e => ⟨d,e⟩
def tro0 : Tro := ⟨⟨0,0,0⟩,[]⟩
def wordT (i : Nat) (w : List (List UInt8)) (x : Tro × Bool) : Option (Tro × Bool) :=
 match w with
 | [w,a,b] => if w = wWell then (if i = 0 then (welR a b).map fun w => ({ x.1 with well := w },false) else none)
  else if w = wFlock then (if i = 0 then none else (droR a b).map fun d => ({ x.1 with flocks := x.1.flocks ++ [d] },false)) else none
 | [w] => if w = wTrough ∧ i ≠ 0 then some (x.1,true) else none
 | _ => none
def lineTr (i : Nat) (s : List UInt8) (x : Tro × Bool) : Option (Tro × Bool) := if x.2 then none else wordT i (partsB 32 s) x
def linesTr : Nat → List (List UInt8) → Tro × Bool → Nat ⊕ (Tro × Bool)
 | _,[],x => .inr x
 | i,s :: l,x => match lineTr i s x with
  | some y => linesTr (i + 1) l y
  | none => .inl (i + 1)
def readTr (s : List UInt8) : Nat ⊕ Tro :=
 match linesTr 0 (partsB 10 s).dropLast (tro0,false) with
 | .inl i => .inl i
 | .inr (t,e) => if e = true ∧ (partsB 10 s).getLast? = some [] then .inr t else .inl (partsB 10 s).length
def readWE (s : List UInt8) : Int × Int :=
 if 80 < s.length then (0,10) else match readTr s with
  | .inl i => ((i : Nat),2)
  | .inr t => (0,troE t)
def readWT (s : List UInt8) : Tro :=
 if (readWE s).2 = 0 then (match readTr s with
  | .inr t => t
  | .inl _ => tro0) else tro0
theorem unsT_num : ∀ n ∈ List.range 100,unsT (num2 n) = some (n : Int) ∧ ∀ b ∈ num2 n,isDig b = true := of_decide_eq_true (by kernel_rfl)
theorem dig_no {b : UInt8} (h : isDig b = true) : b ≠ 10 ∧ b ≠ 32 ∧ b ≠ 47 := by
 rw [isDig_iff] at h
 refine ⟨?_,?_,?_⟩ <;> (rintro rfl; revert h; decide)
def in2 (n : Int) : Prop := 0 ≤ n ∧ n < 100
theorem unsT_of {n : Int} (h : in2 n) : unsT (num2 n.toNat) = some n := by
 obtain ⟨h1,h2⟩ := h
 rw [(unsT_num n.toNat (List.mem_range.2 (by omega))).1,Int.toNat_of_nonneg h1]
theorem num_no {n : Int} (h : in2 n) : ∀ b ∈ num2 n.toNat,b ≠ 10 ∧ b ≠ 32 ∧ b ≠ 47 := fun b hb => by
 obtain ⟨h1,h2⟩ := h
 exact dig_no ((unsT_num n.toNat (List.mem_range.2 (by omega))).2 b hb)
theorem unsT1 : ∀ a ∈ List.range 10,num2 (valB [digC a]).toNat = [digC a] := of_decide_eq_true (by kernel_rfl)
theorem unsT2 : ∀ a ∈ List.range 10,a = 0 ∨ ∀ b ∈ List.range 10,num2 (valB [digC a,digC b]).toNat = [digC a,digC b] := of_decide_eq_true (by kernel_rfl)
theorem unsT_back {d : List UInt8} {x : Int} (h : unsT d = some x) : d = num2 x.toNat ∧ in2 x := by
 unfold unsT at h
 split at h
 ·rename_i hd
  cases h
  unfold dig2 at hd
  simp only [Bool.and_eq_true,decide_eq_true_eq,Bool.not_eq_true'] at hd
  obtain ⟨⟨⟨h1,h3⟩,hz⟩,hall⟩ := hd
  have hb := valB_bnd d hall
  have hp : (10 : Int) ^ d.length ≤ 100 := by
   have : d.length = 1 ∨ d.length = 2 := by omega
   rcases this with e | e <;> rw [e] <;> decide
  refine ⟨?_,hb.1,by omega⟩
  rw [List.all_eq_true] at hall
  match d,h1,h3 with
  | [x],_,_ =>
   obtain ⟨a,ha,rfl⟩ := dig_of (hall x (by simp))
   exact (unsT1 a (List.mem_range.2 ha)).symm
  | [x,y],_,_ =>
   obtain ⟨a,ha,rfl⟩ := dig_of (hall x (by simp))
   obtain ⟨b,hbb,rfl⟩ := dig_of (hall y (by simp))
   rcases unsT2 a (List.mem_range.2 ha) with rfl | k
   ·exfalso
    revert hz
    simp [digC]
   ·exact (k b (List.mem_range.2 hbb)).symm
 ·cases h
theorem sgnT_of {c : UInt8} {n : Int} (h : in2 n) : sgnT c (c :: num2 n.toNat) = some n := by
 show (if c = c then unsT (num2 n.toNat) else none) = _
 rw [if_pos rfl,unsT_of h]
theorem sgnT_back {c : UInt8} {s : List UInt8} {n : Int} (h : sgnT c s = some n) : s = c :: num2 n.toNat ∧ in2 n := by
 unfold sgnT at h
 split at h
 ·split at h
  ·rename_i e
   subst e
   obtain ⟨rfl,hn⟩ := unsT_back h
   exact ⟨rfl,hn⟩
  ·cases h
 ·cases h
def welW1 (w : Wel) : List UInt8 := joinR [47] (num2 w.now.toNat) [num2 w.holds.toNat]
def welL (w : Wel) : List UInt8 := joinR [32] wWell [welW1 w,43 :: num2 w.fill.toNat]
def droL (d : Dro) : List UInt8 := joinR [32] wFlock [45 :: num2 d.drinks.toNat,64 :: num2 d.every.toNat]
def linesOf (t : Tro) : List (List UInt8) := welL t.well :: (t.flocks.map droL ++ [wTrough])
theorem trough_lines (t : Tro) : troT t = (linesOf t).flatMap (· ++ [10]) := by
 unfold troT linesOf
 have e1 : ∀ l : List Dro,(l.map droL).flatMap (· ++ [10]) = l.flatMap droT := fun l => by
  rw [List.flatMap_map]
  congr 1
  funext d
  simp [droT,droL,joinR,wFlock]
 rw [List.flatMap_cons,List.flatMap_append,e1]
 simp [welT,welL,welW1,joinR,wWell,wTrough]
def welIn (w : Wel) : Prop := in2 w.now ∧ in2 w.holds ∧ in2 w.fill
def droIn (d : Dro) : Prop := in2 d.drinks ∧ in2 d.every
theorem welR_of {w : Wel} (h : welIn w) : welR (welW1 w) (43 :: num2 w.fill.toNat) = some w := by
 obtain ⟨h1,h2,h3⟩ := h
 have hp : partsB 47 (welW1 w) = [num2 w.now.toNat,num2 w.holds.toNat] := parts_join _ _ fun u hu b hb => by
  simp only [List.mem_cons,List.not_mem_nil,or_false] at hu
  rcases hu with rfl | rfl
  ·exact (num_no h1 b hb).2.2
  ·exact (num_no h2 b hb).2.2
 unfold welR
 rw [hp]
 simp only [unsT_of h1,unsT_of h2,sgnT_of h3,Option.bind_some,Option.map_some]
theorem droR_of {d : Dro} (h : droIn d) : droR (45 :: num2 d.drinks.toNat) (64 :: num2 d.every.toNat) = some d := by
 obtain ⟨h1,h2⟩ := h
 unfold droR
 simp only [sgnT_of h1,sgnT_of h2,Option.bind_some,Option.map_some]
theorem welR_back {a b : List UInt8} {w : Wel} (h : welR a b = some w) : a = welW1 w ∧ b = 43 :: num2 w.fill.toNat ∧ welIn w := by
 unfold welR at h
 split at h
 ·rename_i x y hp
  obtain ⟨n,h1,h⟩ := Option.bind_eq_some_iff.1 h
  obtain ⟨m,h2,h⟩ := Option.bind_eq_some_iff.1 h
  obtain ⟨f,h3,rfl⟩ := Option.map_eq_some_iff.1 h
  obtain ⟨rfl,i1⟩ := unsT_back h1
  obtain ⟨rfl,i2⟩ := unsT_back h2
  obtain ⟨rfl,i3⟩ := sgnT_back h3
  exact ⟨join_parts a hp,rfl,i1,i2,i3⟩
 ·cases h
theorem droR_back {a b : List UInt8} {d : Dro} (h : droR a b = some d) : a = 45 :: num2 d.drinks.toNat ∧ b = 64 :: num2 d.every.toNat ∧ droIn d := by
 unfold droR at h
 obtain ⟨n,h1,h⟩ := Option.bind_eq_some_iff.1 h
 obtain ⟨f,h3,rfl⟩ := Option.map_eq_some_iff.1 h
 obtain ⟨rfl,i1⟩ := sgnT_back h1
 obtain ⟨rfl,i3⟩ := sgnT_back h3
 exact ⟨rfl,rfl,i1,i3⟩
def NoT (w : List UInt8) : Prop := ∀ b ∈ w,b ≠ 10 ∧ b ≠ 32
theorem NoT.app {a b : List UInt8} (h1 : NoT a) (h2 : NoT b) : NoT (a ++ b) := fun x hx => (List.mem_append.1 hx).elim (h1 x) (h2 x)
theorem NoT.con {c : UInt8} {b : List UInt8} (h1 : c ≠ 10 ∧ c ≠ 32) (h2 : NoT b) : NoT (c :: b) := fun x hx => (List.mem_cons.1 hx).elim (fun e => e ▸ h1) (h2 x)
theorem not_num {n : Int} (h : in2 n) : NoT (num2 n.toNat) := fun b hb => ⟨(num_no h b hb).1,(num_no h b hb).2.1⟩
theorem not_w1 {w : Wel} (h : welIn w) : NoT (welW1 w) := by
 have e : welW1 w = num2 w.now.toNat ++ 47 :: num2 w.holds.toNat := by simp [welW1,joinR]
 rw [e]
 exact (not_num h.1).app (.con (by decide) (not_num h.2.1))
theorem not_words : NoT wWell ∧ NoT wFlock ∧ NoT wTrough := by
 refine ⟨?_,?_,?_⟩ <;> (unfold NoT; decide)
theorem parts_wordsT {a : List UInt8} {l : List (List UInt8)} (h : ∀ w ∈ a :: l,NoT w) : partsB 32 (joinR [32] a l) = a :: l := parts_join a l fun w hw b hb => (h w hw b hb).2
theorem join_noT {a : List UInt8} {l : List (List UInt8)} (h : ∀ w ∈ a :: l,NoT w) : ∀ b ∈ joinR [32] a l,b ≠ 10 := by
 intro b hb
 unfold joinR at hb
 rcases List.mem_append.1 hb with hb | hb
 ·exact (h a (by simp) b hb).1
 ·obtain ⟨w,hw,hb⟩ := List.mem_flatMap.1 hb
  rcases List.mem_append.1 hb with hb | hb
  ·simp at hb
   subst hb
   decide
  ·exact (h w (by simp [hw]) b hb).1
theorem wel_words {w : Wel} (h : welIn w) : ∀ u ∈ wWell :: [welW1 w,43 :: num2 w.fill.toNat],NoT u := by
 intro u hu
 simp only [List.mem_cons,List.not_mem_nil,or_false] at hu
 rcases hu with rfl | rfl | rfl
 ·exact not_words.1
 ·exact not_w1 h
 ·exact .con (by decide) (not_num h.2.2)
theorem dro_words {d : Dro} (h : droIn d) : ∀ u ∈ wFlock :: [45 :: num2 d.drinks.toNat,64 :: num2 d.every.toNat],NoT u := by
 intro u hu
 simp only [List.mem_cons,List.not_mem_nil,or_false] at hu
 rcases hu with rfl | rfl | rfl
 ·exact not_words.2.1
 ·exact .con (by decide) (not_num h.1)
 ·exact .con (by decide) (not_num h.2)
theorem trough_part : partsB 32 wTrough = [wTrough] := partsB_one _ fun b hb => (not_words.2.2 b hb).2
theorem line_wel {w : Wel} (h : welIn w) : lineTr 0 (welL w) (tro0,false) = some (⟨w,[]⟩,false) := by
 have hp : partsB 32 (welL w) = _ := parts_wordsT (wel_words h)
 unfold lineTr
 rw [hp,if_neg (by simp)]
 unfold wordT
 simp only [if_true,welR_of h]
 rfl
theorem line_dro {i : Nat} {t : Tro} {d : Dro} (hi : i ≠ 0) (h : droIn d) : lineTr i (droL d) (t,false) = some ({ t with flocks := t.flocks ++ [d] },false) := by
 have hp : partsB 32 (droL d) = _ := parts_wordsT (dro_words h)
 unfold lineTr
 rw [hp,if_neg (by simp)]
 unfold wordT
 simp only [if_neg (by decide : ¬ wFlock = wWell),if_neg hi,if_true,droR_of h]
 rfl
theorem line_endT {i : Nat} {t : Tro} (hi : i ≠ 0) : lineTr i wTrough (t,false) = some (t,true) := by
 unfold lineTr
 rw [trough_part,if_neg (by simp)]
 exact if_pos ⟨rfl,hi⟩
theorem lines_dro : ∀ (ds : List Dro) (i : Nat) (t : Tro) (rest : List (List UInt8)),i ≠ 0 → (∀ d ∈ ds,droIn d) → linesTr i (ds.map droL ++ rest) (t,false) = linesTr (i + ds.length) rest ({ t with flocks := t.flocks ++ ds },false)
 | [],i,t,rest,_,_ => by simp
 | d :: ds,i,t,rest,hi,h => by
  have hl := line_dro (i := i) (t := t) hi (h d (by simp))
  have ih := lines_dro ds (i + 1) { t with flocks := t.flocks ++ [d] } rest (by omega) fun x hx => h x (by simp [hx])
  simp only [List.map_cons,List.cons_append,linesTr,hl]
  rw [ih]
  simp only [List.append_assoc,List.singleton_append,List.length_cons]
  congr 1
  omega
theorem fine_in {t : Tro} (f : TroFine t) : welIn t.well ∧ ∀ d ∈ t.flocks,droIn d := by
 have h1 := f.holds
 have h2 := f.now
 have h3 := f.fill
 refine ⟨⟨⟨by omega,by omega⟩,⟨by omega,by omega⟩,by omega,by omega⟩,fun d hd => ?_⟩
 have := f.dro d hd
 unfold droOk at this
 exact ⟨⟨by omega,by omega⟩,by omega,by omega⟩
theorem read_trough {t : Tro} (f : TroFine t) : readTr (troT t) = .inr t := by
 obtain ⟨hw,hd⟩ := fine_in f
 have hno : ∀ u ∈ linesOf t,∀ b ∈ u,b ≠ 10 := by
  intro u hu
  unfold linesOf at hu
  rcases List.mem_cons.1 hu with rfl | hu
  ·exact join_noT (wel_words hw)
  rcases List.mem_append.1 hu with hu | hu
  ·obtain ⟨d,hdm,rfl⟩ := List.mem_map.1 hu
   exact join_noT (dro_words (hd d hdm))
  ·rw [List.mem_singleton.1 hu]
   exact fun b hb => (not_words.2.2 b hb).1
 unfold readTr
 rw [trough_lines,lines_parts _ hno]
 have hdl : (linesOf t ++ [[]]).dropLast = linesOf t := List.dropLast_concat
 have hl : (linesOf t ++ [([] : List UInt8)]).getLast? = some [] := List.getLast?_concat
 rw [hdl,hl]
 have hlines : linesTr 0 (linesOf t) (tro0,false) = .inr (t,true) := by
  unfold linesOf
  simp only [linesTr,line_wel hw]
  rw [lines_dro _ 1 _ _ (by decide) hd]
  simp only [List.nil_append,linesTr,line_endT (show 1 + t.flocks.length ≠ 0 by omega)]
 rw [hlines]
 simp
theorem trough_short {t : Tro} (f : TroFine t) : (troT t).length ≤ 64 := by
 have h1 := welT_len t.well
 have h2 := flT_len t.flocks
 have h3 := f.len
 unfold troT
 simp only [List.length_append,List.length_cons,List.length_nil]
 omega
theorem lines_over {i : Nat} {L : List (List UInt8)} {t : Tro} {y : Tro × Bool} (h : linesTr i L (t,true) = .inr y) : L = [] ∧ y = (t,true) := by
 cases L with
 | nil =>
  simp only [linesTr,Sum.inr.injEq] at h
  exact ⟨rfl,h.symm⟩
 | cons u L =>
  have : lineTr i u (t,true) = none := if_pos rfl
  simp only [linesTr,this] at h
  cases h
theorem line_backT {i : Nat} {u : List UInt8} {t : Tro} {y : Tro × Bool} (h : lineTr i u (t,false) = some y) :
  (i = 0 ∧ ∃ w,u = welL w ∧ y = ({ t with well := w },false)) ∨ (i ≠ 0 ∧ ∃ d,u = droL d ∧ y = ({ t with flocks := t.flocks ++ [d] },false)) ∨ (i ≠ 0 ∧ u = wTrough ∧ y = (t,true)) := by
 unfold lineTr at h
 rw [if_neg (by simp)] at h
 unfold wordT at h
 split at h
 ·rename_i w a b hp
  have hu := join_parts u hp
  split at h
  ·rename_i e
   subst e
   split at h
   ·rename_i hi
    obtain ⟨x,hx,rfl⟩ := Option.map_eq_some_iff.1 h
    obtain ⟨rfl,rfl,_⟩ := welR_back hx
    exact .inl ⟨hi,x,hu,rfl⟩
   ·cases h
  ·split at h
   ·rename_i e
    subst e
    split at h
    ·cases h
    ·rename_i hi
     obtain ⟨x,hx,rfl⟩ := Option.map_eq_some_iff.1 h
     obtain ⟨rfl,rfl,_⟩ := droR_back hx
     exact .inr (.inl ⟨hi,x,hu,rfl⟩)
   ·cases h
 ·rename_i w hp
  have hu := join_parts u hp
  split at h
  ·rename_i hh
   obtain ⟨rfl,hi⟩ := hh
   cases h
   exact .inr (.inr ⟨hi,by rw [hu]; simp [joinR],rfl⟩)
  ·cases h
 ·cases h
theorem lines_backT : ∀ {L : List (List UInt8)} {i : Nat} {t t' : Tro},i ≠ 0 → linesTr i L (t,false) = .inr (t',true) → ∃ ds,t' = { t with flocks := t.flocks ++ ds } ∧ L = ds.map droL ++ [wTrough]
 | [],i,t,t',_,h => by
  simp [linesTr] at h
 | u :: L,i,t,t',hi,h => by
  cases hl : lineTr i u (t,false) with
  | none =>
   simp only [linesTr,hl] at h
   cases h
  | some y =>
   simp only [linesTr,hl] at h
   rcases line_backT hl with ⟨h0,_⟩ | ⟨_,d,rfl,rfl⟩ | ⟨_,rfl,rfl⟩
   ·exact absurd h0 hi
   ·obtain ⟨ds,h1,h2⟩ := lines_backT (i := i + 1) (by omega) h
    refine ⟨d :: ds,?_,by rw [h2]; rfl⟩
    rw [h1]
    simp
   ·obtain ⟨rfl,h2⟩ := lines_over h
    cases h2
    exact ⟨[],by simp,rfl⟩
theorem trough_read {u : List UInt8} {t : Tro} (h : readTr u = .inr t) : troT t = u := by
 unfold readTr at h
 split at h
 ·cases h
 ·rename_i t' e hl
  split at h
  ·rename_i hh
   obtain ⟨rfl,hlast⟩ := hh
   cases h
   have hu := parts_lines hlast
   cases hd : (partsB 10 u).dropLast with
   | nil =>
    rw [hd] at hl
    simp [linesTr] at hl
   | cons w L =>
    rw [hd] at hl hu
    cases h0 : lineTr 0 w (tro0,false) with
    | none =>
     simp only [linesTr,h0] at hl
     cases hl
    | some y =>
     simp only [linesTr,h0] at hl
     rcases line_backT h0 with ⟨_,x,rfl,rfl⟩ | ⟨hi,_⟩ | ⟨hi,_⟩
     ·obtain ⟨ds,h1,h2⟩ := lines_backT (by decide) hl
      rw [trough_lines,hu,h2,h1]
      simp [linesOf,tro0]
     ·exact absurd rfl hi
     ·exact absurd rfl hi
  ·cases h
theorem readWE_text {t : Tro} (f : TroFine t) : readWE (troT t) = (0,0) ∧ readWT (troT t) = t := by
 have h1 := read_trough f
 have h2 := trough_short f
 have e : readWE (troT t) = (0,0) := by
  unfold readWE
  rw [if_neg (by omega),h1]
  show ((0 : Int),troE t) = _
  rw [fine_troE f]
 refine ⟨e,?_⟩
 unfold readWT
 rw [e,h1]
 rfl
theorem readWE_ok {u : List UInt8} (h : (readWE u).2 = 0) : readTr u = .inr (readWT u) ∧ TroFine (readWT u) ∧ (readWE u).1 = 0 ∧ troT (readWT u) = u := by
 have hT : readWT u = _ := if_pos h
 unfold readWE at h ⊢
 split at h
 ·cases h
 ·rename_i hl
  rw [if_neg hl]
  cases hr : readTr u with
  | inl i =>
   rw [hr] at h
   cases h
  | inr t =>
   rw [hr] at h hT
   have hT : readWT u = t := hT
   rw [hT]
   exact ⟨rfl,troE_fine h,rfl,trough_read hr⟩
end Go.Proofs.YtcmgjbflljmphaaGreatDoor
namespace Go.Proofs.YtcmgjbflljmphaaGreatDoor
open Go.Conc
section
variable {P : Program} {W0 : World} {Post : Value → World → Prop} {ρ : Env} {h : List AObj} {FC : Frm} {w : World} {ft : Foot} {f : RG} {a : Act} {b : FB} {K : Value → List AObj → Prop} {n0 : Nat}
theorem leave_top {fn : Func} (hk : b.kind = .normal) (hf : P.funcs[b.fn]? = some fn) (hin : P.inits.idxOf? b.fn = none)
  (hc : ∀ v h' ρ' w' ft' cv,K v h' → HRel ρ' h' FC w' ft' → Env.upto n0 ρ ρ' → n0 ≤ h'.length → VRel h'.length ρ' v cv → Base W0 w' → Post cv w') :
  ∀ (ds : List Nat) (h : List AObj) (w : World) (ft : Foot) (a : Act) (fr : Frame),fr.fn = b.fn → fr.kind = .normal → fr.mode = .returning → fr.tmps = a.tmps → fr.defers = ds.map (fun d => { target := .collected (ρ.blk d),args := #[] }) → RegRel h.length ρ f.r a.tmps → HRel ρ h FC w ft → n0 ≤ h.length →
   takeW ds h (fun h => resW P fn.results.toList f.r h fun vs => K (pack vs) h ∨ ∃ σ h' v,GC n0 σ h h' ∧ pack vs = sub σ v ∧ VOk h'.length v ∧ K v h') → J1 P W0 Post (G fr []) w ft
 | [],h,w,ft,a,fr,e1,e2,e3,e4,e5,hr,H,hn,hq => by
  obtain ⟨fn',tmps,todo,defers,mode,kind,ro⟩ := fr
  simp only at e1 e2 e3 e4 e5
  subst e1 e2 e3 e4 e5
  refine J1.both rfl fun w₁ h₁ hbase => .inr ?_
  have H₁ := H.rely h₁
  have hrun : RunsTo P (EvOk ft) (results fn a.tmps) w₁ fun cv w' => w' = w₁ ∧ ∃ vs,cv = ren ρ (pack vs) ∧ (∀ v ∈ vs,VOk h.length v) ∧ (K (pack vs) h ∨ ∃ σ h' v,GC n0 σ h h' ∧ pack vs = sub σ v ∧ VOk h'.length v ∧ K v h') := by
   unfold results
   have : (fn.results.mapM (resF a.tmps)) = Functor.map List.toArray (fn.results.toList.mapM (resF a.tmps)) := by
    rw [Array.mapM_eq_mapM_toList]
   show RunsTo P (EvOk ft) (do
    let vs ← fn.results.mapM (resF a.tmps)
    pure (if h : vs.size = 1 then vs[0] else .tuple vs)) w₁ _
   rw [this]
   refine RunsTo.bind (RunsTo.map (res_run (n := 0) H₁ hr fn.results.toList hq fun vs hvs hok => RunsTo.pure ⟨rfl,vs,?_,hok,hvs⟩))
   exact pack_ren vs
  obtain ⟨cv,w',es,hr',he,rfl,vs,rfl,hvok,hvs⟩ := hrun #[] (by simp)
  have hes : ∀ e ∈ seen P b.fn es,EvOk ft e := fun e hm => he e (mem_seen hm)
  refine ⟨ren ρ (pack vs),seen P b.fn es,?_,hes,?_⟩
  ·simp only [G,stepG,unwind,List.map_nil,hf,hr']
   simp [doReturn,GStep.after,hin]
  ·rcases hvs with hK | ⟨σ,h',v,g,hp,hok,hK⟩
   ·exact hc _ h _ w' ft _ hK H₁ (Env.upto_refl _ _) hn (.inr ⟨pack_ok hvok,rfl⟩) hbase
   ·rw [hp,ren_sub]
    exact hc v h' _ w' ft _ hK (g.rel H₁) g.upto g.le (.inr ⟨hok,rfl⟩) hbase
 | d :: ds,h,w,ft,a,fr,e1,e2,e3,e4,e5,hr,H,hn,hq => by
  obtain ⟨fn',tmps,todo,defers,mode,kind,ro⟩ := fr
  simp only at e1 e2 e3 e4 e5
  subst e1 e2 e3 e4 e5
  obtain ⟨hd,hq⟩ := hq
  refine (J1.closed P W0 Post).step rfl fun w₁ h₁ => ?_
  have H₁ := H.rely h₁
  obtain ⟨cv,w',es,hr',he,rfl,H',hst,hsz⟩ := take_run (P := P) H₁ hd (Q := fun l w' => l = [] ∧ HRel ρ (h.set d .dead) FC w' ft ∧ Stays ft w₁ w' ∧ w'.heap.size = w₁.heap.size) (fun w' a1 a2 a3 => ⟨rfl,a1,a2,a3⟩) #[] (by simp)
  have hes : ∀ e ∈ seen P b.fn es,EvOk ft e := fun e hm => he e (mem_seen hm)
  refine ⟨G { fn := b.fn,tmps := a.tmps,todo := todo,defers := ds.map (fun d => { target := .collected (ρ.blk d),args := #[] }),mode := .returning,kind := .normal,roundOf := ro } [],w',seen P b.fn es,?_,rfl,hst.guar hes,?_⟩
  ·simp only [G,stepG,unwind,List.map_cons,hr']
   simp [GStep.after]
  ·rw [hsz,Foot.ext_self]
   exact leave_top hk hf hin hc ds _ w' ft a _ rfl rfl rfl rfl rfl (by rw [List.length_set]; exact hr) H' (by rw [List.length_set]; exact hn) hq
theorem top_of_W (hm : P.follows .mixedOrders = true) {g : FuncId} {fn : Func} (hf : P.funcs[g]? = some fn) {c : Code} (hb : fn.body = some c) (hin : P.inits.idxOf? g = none) {args : List Value} {cargs : Array Value} (ha : args.length ≤ fn.ntmps) (hl : cargs.size = args.length)
  (hr : ∀ i : Nat,VRel h.length ρ (args.getD i unk) (cargs.toList.getD i undef)) (H : HRel ρ h FC w ft)
  (hs : W P (J1 P W0 Post) fn.ntmps h.length g c ⟨regs args,[]⟩ h (RetQ P fn.results.toList h.length K))
  (hc : ∀ v h' ρ' w' ft' cv,K v h' → HRel ρ' h' FC w' ft' → Env.upto h.length ρ ρ' → h.length ≤ h'.length → VRel h'.length ρ' v cv → Base W0 w' → Post cv w') : J1 P W0 Post (G (Frame.enter P g cargs .normal) []) w ft := by
 have hJ := J1.closed P W0 Post
 obtain ⟨cargs⟩ := cargs
 simp only at hl hr
 have he : Frame.enter P g ⟨cargs⟩ .normal = FB.at ⟨g,.normal,none,[]⟩ ⟨⟨cargs⟩ ++ Array.replicate (fn.ntmps - cargs.length) undef,[]⟩ [.code c] := by
  simp [Frame.enter,FB.at,hf,hb]
 rw [he]
 have A : ActRel h.length ρ fn.ntmps ⟨regs args,[]⟩ ⟨⟨cargs⟩ ++ Array.replicate (fn.ntmps - cargs.length) undef,[]⟩ := by
  refine ⟨fun t => ?_,by simp at hl ⊢; omega,rfl,by simp⟩
  have := hr t
  have ht : ((⟨cargs⟩ : Array Value) ++ Array.replicate (fn.ntmps - cargs.length) undef).getD t undef = cargs.getD t undef := by
   rw [Array.getD_eq_getD_getElem?,List.getD_eq_getElem?_getD]
   by_cases hx : t < cargs.length
   ·rw [Array.getElem?_append_left (by simpa using hx)]
    simp
   ·rw [Array.getElem?_append_right (by simp; omega),List.getElem?_eq_none (by omega)]
    simp only [Array.getElem?_replicate]
    split <;> rfl
  rw [ht]
  exact this
 have last : ∀ f' h' ρ' w' ft' a' todo,RetQ P fn.results.toList h.length K .ret f' h' → ActRel h'.length ρ' fn.ntmps f' a' → HRel ρ' h' FC w' ft' → Env.upto h.length ρ ρ' → h.length ≤ h'.length →
   J1 P W0 Post (G { (FB.at ⟨g,.normal,none,[]⟩ a' todo) with mode := .returning } []) w' ft' := by
  intro f' h' ρ' w' ft' a' todo q A' H' hu hl
  exact leave_top (b := ⟨g,.normal,none,[]⟩) (f := f') (n0 := h.length) (ρ := ρ') rfl hf hin (fun v h2 ρ2 w2 ft2 cv k H2 u2 l2 v2 => hc v h2 ρ2 w2 ft2 cv k H2 (Env.upto_trans hu u2) l2 v2) f'.ds h' w' ft' a' _ rfl rfl rfl rfl ((List.append_nil _).trans A'.defers) A'.regs H' hl q
 refine W_sound hJ hm c hs ⟨g,.normal,none,[]⟩ _ [] [] (fun jump a w ft => jump = some .ret ∧ ∀ todo,J1 P W0 Post (G { (FB.at ⟨g,.normal,none,[]⟩ a todo) with mode := .returning } []) w ft) ρ FC w ft rfl (by simp) ?_ A H (Nat.le_refl _) ?_
 ·rintro jump a w ft todo ⟨rfl,hj⟩ hh
  rcases hh with ⟨_,k,rfl⟩ | ⟨id,k,e,_⟩ | ⟨e,_⟩
  ·exact hJ.ctrl rfl rfl (fun w => by simp [G,stepG,stepG.exec,FB.at]) (hj (.code .ret :: k))
  ·cases e
  ·cases e
 ·intro e f' h' ρ' w' ft' a' q A' H' hu hl
  cases e with
  | normal => exact hJ.ctrl rfl rfl (fun w => by simp [G,stepG,stepG.exec,FB.at]) (last f' h' ρ' w' ft' a' [] q A' H' hu hl)
  | ret => exact ⟨rfl,fun todo => last f' h' ρ' w' ft' a' todo q A' H' hu hl⟩
  | exit id => exact q.elim
  | goto l => exact q.elim
  | panic l => exact q.elim
  | outgrown => exact q.elim
theorem run_of_J1 {g : Goroutine} {w : World} {ft : Foot} (h : J1 P W0 Post g w ft) (hb : ∀ b,ft.rd b → b < w.heap.size) (hs : ∀ b,ft.wr b → ft.rd b) (hw : W0 = w) : Ends P Post (solo g w) #[] := by
 rw [solo_eq_crowd]
 exact h #[g] w none #[] (fun _ => 0) hb hs (RelyW.refl _ _) (by subst hw; exact ⟨rfl,rfl,rfl,Nat.le_refl _⟩) rfl (leavers_one P g) (past_nil.mono (Nat.zero_le _))
end
def RunsX {α : Type} (P : Program) (s : Go.Sem α) (w : World) (v : α) (w' : World) (es : List Event) : Prop := ∀ acc : Array Event,s.runT P w acc = (.ok v w',acc ++ es.toArray)
section
variable {α β : Type} {P : Program} {w w1 w2 w' : World}
theorem RunsX.of {s : Go.Sem α} {v : α} {es : List Event} (h1 : s.run P w = .ok v w') (h2 : ∀ acc,s.events P w acc = acc ++ es.toArray) : RunsX P s w v w' es := fun acc => by
 rw [Sem.runT_eq,h1,h2]
theorem RunsX.pure {a : α} : RunsX P (Pure.pure a) w a w [] := fun acc => by
 show (Result.ok a w,acc) = _
 simp
theorem RunsX.bind {s : Go.Sem α} {f : α → Go.Sem β} {v : α} {u : β} {e1 e2 : List Event} (h : RunsX P s w v w1 e1) (h2 : RunsX P (f v) w1 u w2 e2) : RunsX P (s >>= f) w u w2 (e1 ++ e2) := by
 intro acc
 show (s.bind f).runT P w acc = _
 rw [Sem.runT_bind',h acc]
 show (f v).runT P w1 (acc ++ e1.toArray) = _
 rw [h2]
 simp
theorem RunsX.program : RunsX P Go.program w P w [] := fun acc => by
 show (Result.ok P w,acc) = _
 simp
theorem RunsX.mark {m : Mark} : RunsX P (Go.mark m) w () w [⟨.mark m,false,true⟩] := fun acc => by
 show (Result.ok () w,acc.push _) = _
 simp
structure IsExt (P : Program) (g : FuncId) (fn : Func) (e : Array Value → Go.Sem Value) : Prop where
 here : P.funcs[g]? = some fn
 name : (fn.name == "runtime.NumGoroutine") = false
 body : fn.body.isNone = true
 next : Extern.findNext fn = none
 find : Extern.find fn = some e
variable {main : Bool} {J : JT} {g : FuncId} {cargs : List Value} {b : FB} {a : Act} {ops : Array Oper} {i : Nat} {rest : List Nat} {o : Oper} {k : List Item} {cs : List Frame} {w' : World} {fn : Func}
theorem IsExt.not {e : Array Value → Go.Sem Value} (E : IsExt P g fn e) : g < P.funcs.size ∧ callable P g = false := by
 refine ⟨(Array.getElem?_eq_some_iff.1 E.here).1,?_⟩
 have hb : fn.body.isSome = false := by
  have := E.body
  cases h : fn.body with
  | none => rfl
  | some c => rw [h] at this; cases this
 unfold callable
 rw [E.here]
 simp [hb]
end
section
variable {P : Program} {main : Bool} {J : JT} {g : FuncId} {fn : Func}
theorem RunsX.choose {q : Question} {w : World} (hq : q.forced = false) : ∃ T d,RunsX P (Go.choose q) w (q.cut T) { w with drawn := d } [] := by
 refine ⟨w.tape w.drawn q,w.drawn + 1,fun acc => ?_⟩
 unfold Go.choose
 unfold Sem.runT
 rw [hq]
 simp
theorem RunsX.underlying {t : TypeId} {d : TypeDesc} {w : World} (hu : P.underlying t = some d) : RunsX P (Go.underlying t) w d w [] := by
 unfold Go.underlying
 refine RunsX.bind (e1 := []) (e2 := []) RunsX.program ?_
 simp only [hu]
 exact RunsX.pure
end
section
variable {H : List AObj} {KV : Value → Prop}
theorem lenStr {s : List UInt8} (hk : KV (vint s.length)) : aLenStr (strV s) KV := hk
end
section
variable {P : Program} {main : Bool} {J : JT} {g : FuncId} {fn : Func} {h : List AObj} {K : Value → List AObj → Prop}
theorem good_run (hJ : Closed P main J) {e : Array Value → Go.Sem Value} (E : IsExt P g fn e) {args : List Value}
  (hrun : ∀ (ρ : Env) (FC : Frm) (w : World) (ft : Foot) (cargs : List Value),HRel ρ h FC w ft → (∀ i : Nat,VRel h.length ρ (args.getD i unk) (cargs.getD i undef)) → cargs.length = args.length →
   RunsTo P (EvOk ft) (e ⟨cargs⟩) w fun cv w' => ∃ v h' ρ',K v h' ∧ Goes1 ρ h FC w ft ρ' h' w' ∧ VRel h'.length ρ' v cv) : Good P J g args h K :=
 .inr ⟨E.not,fun b a ops i rest o k cs ρ FC w ft cargs S H hr hl hc => hJ.step rfl fun w₁ h₁ => by
  have H₁ := H.rely h₁
  have hcall : RunsTo P (EvOk ft) (callFunc g ⟨cargs⟩) w₁ fun nx w' => ∃ cv v h' ρ',nx = .value cv ∧ K v h' ∧ Goes1 ρ h FC w₁ ft ρ' h' w' ∧ VRel h'.length ρ' v cv := by
   unfold callFunc
   refine RunsTo.bind (RunsTo.program ?_)
   simp only [E.here,E.name,E.body,E.next,E.find]
   refine RunsTo.bind (RunsTo.mark trivial ?_)
   refine RunsTo.bind ((hrun ρ FC w₁ ft cargs H₁ hr hl).mono fun cv w' ⟨v,h',ρ',k1,k2,k3⟩ => RunsTo.pure ⟨cv,v,h',ρ',rfl,k1,k2,k3⟩)
  obtain ⟨nx,w',es,hr2,he,cv,v,h',ρ',rfl,hK,g',hv⟩ := hcall #[] (by simp)
  have hes : ∀ e ∈ seen P b.fn es,EvOk ft e := fun e hm => he e (mem_seen hm)
  have hf := FB.finish_at b a ops i rest k cv
  rw [S.here] at hf
  simp only [Option.bind_some] at hf
  have hk' : (b.kind == CallKind.early) = false := by simpa using S.kind
  refine ⟨G (b.at (a.put o.dst cv) (.inRegion ops rest :: k)) cs,w',seen P b.fn es,?_,rfl,g'.stays.guar hes,?_⟩
  ·rw [stepG_op S.here S.wanted S.nodef,← hf]
   simp only [stepG.apply,(S.calls w₁).trans hr2,if_true]
   simp [G,FB.at,hk',GStep.after]
  ·exact hc v h' ρ' w' _ cv hK g'.rel g'.upto g'.len hv⟩
theorem good_plain (hJ : Closed P main J) {e : Array Value → Go.Sem Value} (E : IsExt P g fn e) {args : List Value} {v : Value} (hv : VOk 0 v) (hren : ∀ ρ,ren ρ v = v)
  (hrun : ∀ (ρ : Env) (FC : Frm) (w : World) (ft : Foot) (cargs : List Value),HRel ρ h FC w ft → (∀ i : Nat,VRel h.length ρ (args.getD i unk) (cargs.getD i undef)) → cargs.length = args.length → RunsX P (e ⟨cargs⟩) w v w []) (hK : K v h) : Good P J g args h K :=
 good_run hJ E fun ρ FC w ft cargs H hr hl es he => by
  refine ⟨v,w,es,?_,he,v,h,ρ,hK,Goes1.refl H,.inr ⟨VOk.mono (Nat.zero_le _) _ hv,(hren ρ).symm⟩⟩
  simpa using hrun ρ FC w ft cargs H hr hl es
theorem arg_str {n : Nat} {ρ : Env} {s : ByteArray} {c : Value} (h : VRel n ρ (.string s) c) : c = .string s := by
 rcases h with e | ⟨_,e⟩
 ·cases e
 ·simpa [ren] using e
theorem arg_int {n : Nat} {ρ : Env} {k : IntKind} {i : Int} {c : Value} (h : VRel n ρ (.int k i) c) : c = .int k i := by
 rcases h with e | ⟨_,e⟩
 ·cases e
 ·simpa [ren] using e
theorem good_count (hJ : Closed P main J) (E : IsExt P g fn Extern.BytealgCount.count) {s : List UInt8} {c : UInt8} (hK : K (.int .i64 (s.count c : Nat)) h) : Good P J g [.string ⟨⟨s⟩⟩,.int .u8 c.toNat] h K :=
 good_plain hJ E (by simp [VOk]) (fun ρ => by simp [ren]) (fun ρ FC w ft cargs H hr hl => by
  match cargs,hl with
  | [a,b],_ =>
   obtain rfl := arg_str (hr 0)
   obtain rfl := arg_int (hr 1)
   refine RunsX.of ?_ fun acc => ?_
   ·rw [show (⟨[.string ⟨⟨s⟩⟩,.int .u8 c.toNat]⟩ : Array Value) = #[.string ⟨⟨s⟩⟩,.int .u8 c.toNat] from rfl,Lib.run_countString]
    simp [Lib.countByte]
   ·change Sem.events P (do
     let b ← Extern.Bytes.bytesOf (.string ⟨⟨s⟩⟩)
     let c' ← Extern.Bytes.asByte (.int .u8 c.toNat)
     pure (goInt (b.foldl (fun n x => if x == c' then n + 1 else n) (0 : Nat)))) w acc = _
    simp [Extern.Bytes.bytesOf,Extern.Bytes.asByte]) hK
theorem good_idxB (hJ : Closed P main J) (E : IsExt P g fn Extern.BytealgIndexByte.indexByte) {s : List UInt8} {c : UInt8} (hK : K (.int .i64 (Lib.indexByte s c)) h) : Good P J g [.string ⟨⟨s⟩⟩,.int .u8 c.toNat] h K :=
 good_plain hJ E (by simp [VOk]) (fun ρ => by simp [ren]) (fun ρ FC w ft cargs H hr hl => by
  match cargs,hl with
  | [a,b],_ =>
   obtain rfl := arg_str (hr 0)
   obtain rfl := arg_int (hr 1)
   refine RunsX.of ?_ fun acc => ?_
   ·rw [show (⟨[.string ⟨⟨s⟩⟩,.int .u8 c.toNat]⟩ : Array Value) = #[.string ⟨⟨s⟩⟩,.int .u8 c.toNat] from rfl,Lib.run_indexByteString]
    simp
   ·change Sem.events P (do
     let b ← Extern.Bytes.bytesOf (.string ⟨⟨s⟩⟩)
     let c' ← Extern.Bytes.asByte (.int .u8 c.toNat)
     match (List.range b.size).find? fun i => b[i]! == c' with
     | some i => pure (goInt i)
     | none => pure (goInt (-1))) w acc = _
    simp only [Extern.Bytes.bytesOf,Extern.Bytes.asByte,Sem.events_bind,Sem.run_pure,Sem.events_pure,Result.evThen]
    split <;> simp) hK
end
end Go.Proofs.YtcmgjbflljmphaaGreatDoor
namespace Go.Proofs.YtcmgjbflljmphaaGreatDoor
open Go.Conc Go.Proofs.Tryz
set_option maxRecDepth 100000
set_option maxHeartbeats 4000000
set_option linter.unusedVariables false
section
variable {main : Bool} {J : JT} {n0 : Nat} {h : List AObj} {K : Value → List AObj → Prop}
theorem at72 : prog.funcs[72]? = some f72 := by kernel_rfl
theorem body72 : f72.body = some (codeOf f72) := by kernel_rfl
def pl72 : Plans := []
def ct72 : Cuts := .bin (.go) (.bin (.go) (.bin (.go) (.bin (.go) (.cut (.go)))))
theorem pok72 : plansOk prog pl72 (codeOf f72) = true := by kernel_rfl
theorem e72 {a0 a1 a2 a3 : Value} : W prog J 66 h.length 72 (codeOf f72) (RG.mk (regs [a0,a1,a2,a3]) []) h (RetQ prog [.tmp 8] h.length K) =
(aBin prog .eql 3 a3 (vint 0) fun v1 =>
 cnd v1
(retL h.length K [] [(Value.slice none 0 0)] h)
(aBin prog .eql 9 a1 (Value.string { data := #[] }) fun v2 =>
 cnd v2
(Good prog J 89 [a0,a3] h fun v3 h4 =>
 retL h.length K [] [v3] h4)
(aBin prog .lss 3 a3 (vint 0) fun v5 =>
 cnd v5
(Good prog J 90 [a0,a1] h fun v6 h7 =>
 aBin prog .add 3 v6 (vint 1) fun v8 =>
 Hold (W prog J 66 h.length 72 (subC [1,1,1,1] (codeOf f72)) (RG.p (RG.p (RG.p (RG.p (RG.p (RG.p (RG.p (RG.p (RG.p (RG.p (RG.p (RG.p (RG.mk (regs [a0,a1,a2,a3]) []) 8 (Value.slice none 0 0)) 12 a3) 13 v1) 14 a1) 15 v2) 19 a3) 20 v5) 21 a0) 22 a1) 23 v6) 24 v8) 3 v8) h7 (contX pl72 prog J 66 h.length 72 ct72 [1,1,1,1] (codeOf f72) [] (RetQ prog [.tmp 8] h.length K))))
(Hold (W prog J 66 h.length 72 (subC [1,1,1,1] (codeOf f72)) (RG.p (RG.p (RG.p (RG.p (RG.p (RG.p (RG.p (RG.mk (regs [a0,a1,a2,a3]) []) 8 (Value.slice none 0 0)) 12 a3) 13 v1) 14 a1) 15 v2) 19 a3) 20 v5) h (contX pl72 prog J 66 h.length 72 ct72 [1,1,1,1] (codeOf f72) [] (RetQ prog [.tmp 8] h.length K))))))) := top_eq pok72 ct72 (by kernel_rfl)
theorem g72 (hJ : Closed prog main J) {a0 a1 a2 a3 : Value} (hs : heapOk h → W prog J 66 h.length 72 (codeOf f72) (RG.mk (regs [a0,a1,a2,a3]) []) h (RetQ prog [.tmp 8] h.length K)) : Good prog J 72 [a0,a1,a2,a3] h K :=
 good_of_W hJ mixed at72 body72 (by kernel_rfl) (Nat.le_of_ble_eq_true rfl) hs
theorem s72_1 {f : RG} : W prog J 66 n0 72 (subC [1,1,1,1] (codeOf f72)) f h (contX pl72 prog J 66 n0 72 ct72 [1,1,1,1] (codeOf f72) [] (RetQ prog [.tmp 8] n0 K)) =
(aLenStr (f.r 0) fun v1 =>
 aBin prog .add 3 v1 (vint 1) fun v2 =>
 aMin (f.r 3) [v2] fun v3 =>
((List.length [(Value.string { data := #[] })] = 1 ∧ (16 : Nat) ≤ 1024) ∧ aMkS [(Value.string { data := #[] })] v3 v3 h fun v4 h5 =>
 aBin prog .sub 3 v3 (vint 1) fun v6 =>
 Sem J 66 n0 72 (subC yp7 (codeOf f72)) (RG.p (RG.p (RG.p (RG.p (RG.p (RG.p (RG.p (RG.p (RG.p (RG.p (RG.p (RG.p (RG.p f 25 (f.r 3)) 26 (f.r 0)) 27 v1) 28 v2) 29 v3) 3 v3) 30 v3) 31 v4) 9 v4) 32 v3) 33 v6) 3 v6) 10 (vint 0)) h5 (contX pl72 prog J 66 n0 72 ct72 yp7 (codeOf f72) [] (RetQ prog [.tmp 8] n0 K)))) := sub_eq pok72 ct72 (by kernel_rfl)
theorem s72_2 {f : RG} {nx0 : RG → List AObj → Prop} : W prog J 66 n0 72 (subC [1,1,1,1,1,1,1,1,0,0,0] (codeOf f72)) f h (thenK nx0 (contX pl72 prog J 66 n0 72 ct72 yp7 (codeOf f72) [] (RetQ prog [.tmp 8] n0 K))) =
(aBin prog .lss 3 (f.r 10) (f.r 3) fun v1 =>
 cnd v1
(Good prog J 91 [(f.r 0),(f.r 1)] h fun v2 h3 =>
 aBin prog .lss 3 v2 (vint 0) fun v4 =>
 cnd v4
(aIdx 1 (f.r 9) (f.r 10) fun v5 =>
 aStore 1 v5 (f.r 0) h3 fun h6 =>
 aBin prog .add 3 (f.r 10) (vint 1) fun v7 =>
 aSl2 1 (f.r 9) none (some v7) h6 fun v8 =>
 retL n0 K f.ds [v8] h6)
(aBin prog .add 3 v2 (f.r 2) fun v9 =>
 aSlStr (f.r 0) none (some v9) fun v10 =>
 aIdx 1 (f.r 9) (f.r 10) fun v11 =>
 aStore 1 v11 v10 h3 fun h12 =>
 aLenStr (f.r 1) fun v13 =>
 aBin prog .add 3 v2 v13 fun v14 =>
 aSlStr (f.r 0) (some v14) none fun v15 =>
 aBin prog .add 3 (f.r 10) (vint 1) fun v16 =>
 nx0 (RG.p (RG.p (RG.p (RG.p (RG.p (RG.p (RG.p (RG.p (RG.p (RG.p (RG.p (RG.p (RG.p (RG.p (RG.p (RG.p (RG.p (RG.p (RG.p (RG.p (RG.p (RG.p (RG.p (RG.p (RG.p (RG.p (RG.p f 34 (f.r 10)) 35 (f.r 3)) 36 v1) 37 (f.r 0)) 38 (f.r 1)) 39 v2) 11 v2) 40 v2) 41 v4) 42 (f.r 9)) 43 (f.r 10)) 44 (f.r 0)) 45 v2) 46 (f.r 2)) 47 v9) 48 v10) 49 v11) 50 (f.r 0)) 51 v2) 52 (f.r 1)) 53 v13) 54 v14) 55 v15) 0 v15) 56 (f.r 10)) 57 v16) 10 v16) h12))
(aIdx 1 (f.r 9) (f.r 10) fun v17 =>
 aStore 1 v17 (f.r 0) h fun h18 =>
 aBin prog .add 3 (f.r 10) (vint 1) fun v19 =>
 aSl2 1 (f.r 9) none (some v19) h18 fun v20 =>
 retL n0 K f.ds [v20] h18)) := sub_eq pok72 ct72 (by kernel_rfl)
theorem l72_2 (hJ : Closed prog main J) {S : Type} (μ : S → Nat) (I : S → RG → List AObj → Prop) (hI : ∀ s f h,I s f h → heapOk h → n0 ≤ h.length → W prog J 66 n0 72 (subC [1,1,1,1,1,1,1,1,0,0,0] (codeOf f72)) f h (thenK (Nx n0 μ I s) (contX pl72 prog J 66 n0 72 ct72 yp7 (codeOf f72) [] (RetQ prog [.tmp 8] n0 K))))
 {s : S} {f : RG} (hi : Gets n0 I s f h) : Sem J 66 n0 72 (subC yp7 (codeOf f72)) f h (contX pl72 prog J 66 n0 72 ct72 yp7 (codeOf f72) [] (RetQ prog [.tmp 8] n0 K)) :=
 loop_rule hJ mixed (b := subC [1,1,1,1,1,1,1,1,0,0,0] (codeOf f72)) (by kernel_rfl) μ I hI hi
theorem at56 : prog.funcs[56]? = some f56 := by kernel_rfl
theorem body56 : f56.body = some (codeOf f56) := by kernel_rfl
def pl56 : Plans := []
def ct56 : Cuts := .go
theorem pok56 : plansOk prog pl56 (codeOf f56) = true := by kernel_rfl
theorem e56 {a0 a1 : Value} : W prog J 8 h.length 56 (codeOf f56) (RG.mk (regs [a0,a1]) []) h (RetQ prog [.tmp 4] h.length K) =
(Good prog J 72 [a0,a1,(vint 0),(vint (-1))] h fun v1 h2 =>
 retL h.length K [] [v1] h2) := top_eq pok56 ct56 (by kernel_rfl)
theorem g56 (hJ : Closed prog main J) {a0 a1 : Value} (hs : heapOk h → W prog J 8 h.length 56 (codeOf f56) (RG.mk (regs [a0,a1]) []) h (RetQ prog [.tmp 4] h.length K)) : Good prog J 56 [a0,a1] h K :=
 good_of_W hJ mixed at56 body56 (by kernel_rfl) (Nat.le_of_ble_eq_true rfl) hs
theorem at90 : prog.funcs[90]? = some f90 := by kernel_rfl
theorem body90 : f90.body = some (codeOf f90) := by kernel_rfl
def pl90 : Plans := []
def ct90 : Cuts := .go
theorem pok90 : plansOk prog pl90 (codeOf f90) = true := by kernel_rfl
theorem e90 {a0 a1 : Value} : W prog J 34 h.length 90 (codeOf f90) (RG.mk (regs [a0,a1]) []) h (RetQ prog [.tmp 4] h.length K) =
(aLenStr a1 fun v1 =>
 aBin prog .eql 3 v1 (vint 0) fun v2 =>
 cnd v2
(Good prog J 103 [a0] h fun v3 h4 =>
 aBin prog .add 3 v3 (vint 1) fun v5 =>
 retL h.length K [] [v5] h4)
(aLenStr a1 fun v6 =>
 aBin prog .eql 3 v6 (vint 1) fun v7 =>
 cnd v7
(aIdxStr a1 (vint 0) fun v8 =>
 Good prog J 105 [a0,v8] h fun v9 h10 =>
 retL h.length K [] [v9] h10)
(Sem J 34 h.length 90 (subC [1,1,1,1,0] (codeOf f90)) (RG.p (RG.p (RG.p (RG.p (RG.p (RG.p (RG.p (RG.p (RG.mk (regs [a0,a1]) []) 4 (vint 0)) 7 a1) 8 v1) 9 v2) 13 a1) 14 v6) 15 v7) 5 (vint 0)) h (contX pl90 prog J 34 h.length 90 ct90 [1,1,1,1,0] (codeOf f90) [] (RetQ prog [.tmp 4] h.length K))))) := top_eq pok90 ct90 (by kernel_rfl)
theorem g90 (hJ : Closed prog main J) {a0 a1 : Value} (hs : heapOk h → W prog J 34 h.length 90 (codeOf f90) (RG.mk (regs [a0,a1]) []) h (RetQ prog [.tmp 4] h.length K)) : Good prog J 90 [a0,a1] h K :=
 good_of_W hJ mixed at90 body90 (by kernel_rfl) (Nat.le_of_ble_eq_true rfl) hs
theorem at91 : prog.funcs[91]? = some f91 := by kernel_rfl
theorem body91 : f91.body = some (codeOf f91) := by kernel_rfl
def pl91 : Plans := []
def ct91 : Cuts := .go
theorem pok91 : plansOk prog pl91 (codeOf f91) = true := by kernel_rfl
theorem e91 {a0 a1 : Value} : W prog J 8 h.length 91 (codeOf f91) (RG.mk (regs [a0,a1]) []) h (RetQ prog [.tmp 4] h.length K) =
(Good prog J 106 [a0,a1] h fun v1 h2 =>
 retL h.length K [] [v1] h2) := top_eq pok91 ct91 (by kernel_rfl)
theorem g91 (hJ : Closed prog main J) {a0 a1 : Value} (hs : heapOk h → W prog J 8 h.length 91 (codeOf f91) (RG.mk (regs [a0,a1]) []) h (RetQ prog [.tmp 4] h.length K)) : Good prog J 91 [a0,a1] h K :=
 good_of_W hJ mixed at91 body91 (by kernel_rfl) (Nat.le_of_ble_eq_true rfl) hs
theorem at106 : prog.funcs[106]? = some f106 := by kernel_rfl
theorem body106 : f106.body = some (codeOf f106) := by kernel_rfl
def pl106 : Plans := []
def ct106 : Cuts := .bin (.go) (.bin (.go) (.bin (.un (.bin (.go) (.cut (.bin (.go) (.bin (.go) (.bin (.go) (.bin (.go) (.bin (.go) (.bin (.go) (.cut (.go))))))))))) (.bin (.go) (.bin (.go) (.bin (.go) (.bin (.go) (.bin (.go) (.bin (.un (.un (.bin (.go) (.un (.bin (.go) (.cut (.bin (.bin (.go) (.cut (.go))) (.bin (.go) (.bin (.go) (.bin (.go) (.cut (.bin (.go) (.bin (.go) (.cut (.go))))))))))))))) (.go)))))))))
theorem pok106 : plansOk prog pl106 (codeOf f106) = true := by kernel_rfl
theorem e106 {a0 a1 : Value} : W prog J 143 h.length 106 (codeOf f106) (RG.mk (regs [a0,a1]) []) h (RetQ prog [.tmp 4] h.length K) =
(aLenStr a1 fun v1 =>
 aBin prog .eql 3 v1 (vint 0) fun v2 =>
 cnd v2
(Hold (W prog J 143 h.length 106 (subC [1,1,0,0,1] (codeOf f106)) (RG.p (RG.p (RG.p (RG.p (RG.p (RG.p (RG.p (RG.p (RG.p (RG.p (RG.p (RG.p (RG.p (RG.mk (regs [a0,a1]) []) 4 (vint 0)) 14 a1) 15 v1) 5 v1) 17 v1) 18 v2) 19 v2) 19 (Value.bool true)) 20 undef) 21 undef) 22 undef) 23 (Value.bool true)) 16 (Value.bool true)) h (contX pl106 prog J 143 h.length 106 ct106 [1,1,0,0,1] (codeOf f106) [] (RetQ prog [.tmp 4] h.length K))))
(aBin prog .eql 9 a1 a0 fun v3 =>
 Hold (W prog J 143 h.length 106 (subC [1,1,0,0,1] (codeOf f106)) (RG.p (RG.p (RG.p (RG.p (RG.p (RG.p (RG.p (RG.p (RG.p (RG.p (RG.p (RG.p (RG.p (RG.mk (regs [a0,a1]) []) 4 (vint 0)) 14 a1) 15 v1) 5 v1) 17 v1) 18 v2) 19 v2) 19 (Value.bool false)) 20 a1) 21 a0) 22 v3) 23 v3) 16 v3) h (contX pl106 prog J 143 h.length 106 ct106 [1,1,0,0,1] (codeOf f106) [] (RetQ prog [.tmp 4] h.length K))))) := top_eq pok106 ct106 (by kernel_rfl)
theorem g106 (hJ : Closed prog main J) {a0 a1 : Value} (hs : heapOk h → W prog J 143 h.length 106 (codeOf f106) (RG.mk (regs [a0,a1]) []) h (RetQ prog [.tmp 4] h.length K)) : Good prog J 106 [a0,a1] h K :=
 good_of_W hJ mixed at106 body106 (by kernel_rfl) (Nat.le_of_ble_eq_true rfl) hs
theorem s106_1 {f : RG} : W prog J 143 n0 106 (subC [1,1,0,0,1] (codeOf f106)) f h (contX pl106 prog J 143 n0 106 ct106 [1,1,0,0,1] (codeOf f106) [] (RetQ prog [.tmp 4] n0 K)) =
(cnd (f.r 16)
(retL n0 K f.ds [(vint 0)] h)
(aBin prog .eql 3 (f.r 5) (vint 1) fun v1 =>
 cnd v1
(aIdxStr (f.r 1) (vint 0) fun v2 =>
 Good prog J 112 [(f.r 0),v2] h fun v3 h4 =>
 retL n0 K f.ds [v3] h4)
(aLenStr (f.r 0) fun v5 =>
 aBin prog .geq 3 (f.r 5) v5 fun v6 =>
 cnd v6
(retL n0 K f.ds [(vint (-1))] h)
(aLoad false 1 (gv h 1) h fun v7 =>
 aBin prog .leq 3 (f.r 5) v7 fun v8 =>
 cnd v8
(aLenStr (f.r 0) fun v9 =>
 aBin prog .leq 3 v9 (vint 64) fun v10 =>
 Hold (W prog J 143 n0 106 (subC [1,1,0,0,1,1,1,1,1,1,1] (codeOf f106)) (RG.p (RG.p (RG.p (RG.p (RG.p (RG.p (RG.p (RG.p (RG.p (RG.p (RG.p (RG.p (RG.p (RG.p (RG.p (RG.p (RG.p (RG.p f 25 (f.r 5)) 26 v1) 24 v1) 32 (f.r 5)) 33 (f.r 0)) 34 v5) 35 v6) 31 v6) 37 (f.r 5)) 38 v7) 39 v8) 40 v8) 40 (Value.bool true)) 41 (f.r 0)) 42 v9) 43 v10) 44 v10) 36 v10) h (contX pl106 prog J 143 n0 106 ct106 [1,1,0,0,1,1,1,1,1,1,1] (codeOf f106) [] (RetQ prog [.tmp 4] n0 K))))
(Hold (W prog J 143 n0 106 (subC [1,1,0,0,1,1,1,1,1,1,1] (codeOf f106)) (RG.p (RG.p (RG.p (RG.p (RG.p (RG.p (RG.p (RG.p (RG.p (RG.p (RG.p (RG.p (RG.p (RG.p (RG.p (RG.p (RG.p (RG.p f 25 (f.r 5)) 26 v1) 24 v1) 32 (f.r 5)) 33 (f.r 0)) 34 v5) 35 v6) 31 v6) 37 (f.r 5)) 38 v7) 39 v8) 40 v8) 40 (Value.bool false)) 41 undef) 42 undef) 43 undef) 44 (Value.bool false)) 36 (Value.bool false)) h (contX pl106 prog J 143 n0 106 ct106 [1,1,0,0,1,1,1,1,1,1,1] (codeOf f106) [] (RetQ prog [.tmp 4] n0 K)))))))) := sub_eq pok106 ct106 (by kernel_rfl)
theorem at112 : prog.funcs[112]? = some f112 := by kernel_rfl
theorem body112 : f112.body = some (codeOf f112) := by kernel_rfl
def pl112 : Plans := []
def ct112 : Cuts := .go
theorem pok112 : plansOk prog pl112 (codeOf f112) = true := by kernel_rfl
theorem e112 {a0 a1 : Value} : W prog J 8 h.length 112 (codeOf f112) (RG.mk (regs [a0,a1]) []) h (RetQ prog [.tmp 4] h.length K) =
(Good prog J 118 [a0,a1] h fun v1 h2 =>
 retL h.length K [] [v1] h2) := top_eq pok112 ct112 (by kernel_rfl)
theorem g112 (hJ : Closed prog main J) {a0 a1 : Value} (hs : heapOk h → W prog J 8 h.length 112 (codeOf f112) (RG.mk (regs [a0,a1]) []) h (RetQ prog [.tmp 4] h.length K)) : Good prog J 112 [a0,a1] h K :=
 good_of_W hJ mixed at112 body112 (by kernel_rfl) (Nat.le_of_ble_eq_true rfl) hs
theorem at92 : prog.funcs[92]? = some f92 := by kernel_rfl
theorem body92 : f92.body = some (codeOf f92) := by kernel_rfl
def pl92 : Plans := [(3,false,.take 0 (.take 1 (.take 3 (.take 4 (.take 5 (.take 6 (.take 7 (.alt 2 true (.take 9 (.last 8 true (.take 10 (.take 11 (.fin))))) (.last 8 true (.last 2 true (.take 9 (.take 10 (.take 11 (.fin))))))))))))))]
def ct92 : Cuts := .go
theorem pok92 : plansOk prog pl92 (codeOf f92) = true := by kernel_rfl
theorem e92 {a0 a1 : Value} : W prog J 23 h.length 92 (codeOf f92) (RG.mk (regs [a0,a1]) []) h (RetQ prog [.tmp 4,.tmp 5,.tmp 6] h.length K) =
(Good prog J 106 [a0,a1] h fun v1 h2 =>
 aBin prog .geq 3 v1 (vint 0) fun v3 =>
 cnd v3
((∃ B,aLenStr a1 fun v4 =>
 RdOk (some B) (mapBlk a1) ∧ (aBin prog .add 3 v1 v4 fun v5 =>
(aSlStr a0 none (some v1) fun v6 =>
 SameB (some B) h2 h2 ∧ (aSlStr a0 (some v5) none fun v7 =>
 SameB (some B) h2 h2 ∧ (retL h.length K [] [v6,v7,(Value.bool true)] h2))) ∧ (aSlStr a0 (some v5) none fun v8 =>
 SameB (some B) h2 h2 ∧ (aSlStr a0 none (some v1) fun v9 =>
 SameB (some B) h2 h2 ∧ (retL h.length K [] [v9,v8,(Value.bool true)] h2))))))
(retL h.length K [] [a0,(Value.string { data := #[] }),(Value.bool false)] h2)) := top_eq pok92 ct92 (by kernel_rfl)
theorem g92 (hJ : Closed prog main J) {a0 a1 : Value} (hs : heapOk h → W prog J 23 h.length 92 (codeOf f92) (RG.mk (regs [a0,a1]) []) h (RetQ prog [.tmp 4,.tmp 5,.tmp 6] h.length K)) : Good prog J 92 [a0,a1] h K :=
 good_of_W hJ mixed at92 body92 (by kernel_rfl) (Nat.le_of_ble_eq_true rfl) hs
theorem at107 : prog.funcs[107]? = some f107 := by kernel_rfl
theorem body107 : f107.body = some (codeOf f107) := by kernel_rfl
def pl107 : Plans := []
def ct107 : Cuts := .go
theorem pok107 : plansOk prog pl107 (codeOf f107) = true := by kernel_rfl
theorem e107 {a0 a1 : Value} : W prog J 15 h.length 107 (codeOf f107) (RG.mk (regs [a0,a1]) []) h (RetQ prog [.tmp 4,.tmp 5] h.length K) =
(Good prog J 116 [a0,a1] h fun v1 h2 =>
 aUn .not v1 fun v3 =>
 cnd v3
(retL h.length K [] [a0,(Value.bool false)] h2)
(aLenStr a1 fun v4 =>
 aSlStr a0 (some v4) none fun v5 =>
 retL h.length K [] [v5,(Value.bool true)] h2)) := top_eq pok107 ct107 (by kernel_rfl)
theorem g107 (hJ : Closed prog main J) {a0 a1 : Value} (hs : heapOk h → W prog J 15 h.length 107 (codeOf f107) (RG.mk (regs [a0,a1]) []) h (RetQ prog [.tmp 4,.tmp 5] h.length K)) : Good prog J 107 [a0,a1] h K :=
 good_of_W hJ mixed at107 body107 (by kernel_rfl) (Nat.le_of_ble_eq_true rfl) hs
theorem at116 : prog.funcs[116]? = some f116 := by kernel_rfl
theorem body116 : f116.body = some (codeOf f116) := by kernel_rfl
def pl116 : Plans := []
def ct116 : Cuts := .go
theorem pok116 : plansOk prog pl116 (codeOf f116) = true := by kernel_rfl
theorem e116 {a0 a1 : Value} : W prog J 18 h.length 116 (codeOf f116) (RG.mk (regs [a0,a1]) []) h (RetQ prog [.tmp 4] h.length K) =
(aLenStr a0 fun v1 =>
 aLenStr a1 fun v2 =>
 aBin prog .geq 3 v1 v2 fun v3 =>
 cnd v3
(aLenStr a1 fun v4 =>
 aSlStr a0 none (some v4) fun v5 =>
 aBin prog .eql 9 v5 a1 fun v6 =>
 retL h.length K [] [v6] h)
(retL h.length K [] [(Value.bool false)] h)) := top_eq pok116 ct116 (by kernel_rfl)
theorem g116 (hJ : Closed prog main J) {a0 a1 : Value} (hs : heapOk h → W prog J 18 h.length 116 (codeOf f116) (RG.mk (regs [a0,a1]) []) h (RetQ prog [.tmp 4] h.length K)) : Good prog J 116 [a0,a1] h K :=
 good_of_W hJ mixed at116 body116 (by kernel_rfl) (Nat.le_of_ble_eq_true rfl) hs
theorem at74 : prog.funcs[74]? = some f74 := by kernel_rfl
theorem body74 : f74.body = some (codeOf f74) := by kernel_rfl
def pl74 : Plans := []
def ct74 : Cuts := .go
theorem pok74 : plansOk prog pl74 (codeOf f74) = true := by kernel_rfl
theorem e74 {a0 a1 : Value} : W prog J 13 h.length 74 (codeOf f74) (RG.mk (regs [a0,a1]) []) h (RetQ prog [.tmp 4,.tmp 5,.tmp 6] h.length K) =
(Good prog J 92 [a0,a1] h fun v1 h2 =>
 aExt v1 0 fun v3 =>
 aExt v1 1 fun v4 =>
 aExt v1 2 fun v5 =>
 retL h.length K [] [v3,v4,v5] h2) := top_eq pok74 ct74 (by kernel_rfl)
theorem g74 (hJ : Closed prog main J) {a0 a1 : Value} (hs : heapOk h → W prog J 13 h.length 74 (codeOf f74) (RG.mk (regs [a0,a1]) []) h (RetQ prog [.tmp 4,.tmp 5,.tmp 6] h.length K)) : Good prog J 74 [a0,a1] h K :=
 good_of_W hJ mixed at74 body74 (by kernel_rfl) (Nat.le_of_ble_eq_true rfl) hs
theorem at93 : prog.funcs[93]? = some f93 := by kernel_rfl
theorem body93 : f93.body = some (codeOf f93) := by kernel_rfl
def pl93 : Plans := []
def ct93 : Cuts := .go
theorem pok93 : plansOk prog pl93 (codeOf f93) = true := by kernel_rfl
theorem e93 {a0 a1 : Value} : W prog J 11 h.length 93 (codeOf f93) (RG.mk (regs [a0,a1]) []) h (RetQ prog [.tmp 4,.tmp 5] h.length K) =
(Good prog J 107 [a0,a1] h fun v1 h2 =>
 aExt v1 0 fun v3 =>
 aExt v1 1 fun v4 =>
 retL h.length K [] [v3,v4] h2) := top_eq pok93 ct93 (by kernel_rfl)
theorem g93 (hJ : Closed prog main J) {a0 a1 : Value} (hs : heapOk h → W prog J 11 h.length 93 (codeOf f93) (RG.mk (regs [a0,a1]) []) h (RetQ prog [.tmp 4,.tmp 5] h.length K)) : Good prog J 93 [a0,a1] h K :=
 good_of_W hJ mixed at93 body93 (by kernel_rfl) (Nat.le_of_ble_eq_true rfl) hs
end
end Go.Proofs.YtcmgjbflljmphaaGreatDoor
namespace Go.Proofs.YtcmgjbflljmphaaGreatDoor
open Go.Conc Go.Proofs.Tryz
set_option maxRecDepth 100000
theorem beqD {α : Type} [BEq α] [LawfulBEq α] [DecidableEq α] (a b : α) : (a == b) = decide (a = b) := by
 rw [Bool.eq_iff_iff]
 simp
section
variable {main : Bool} {J : JT} {H : List AObj} {K : Value → List AObj → Prop} {KV : Value → Prop} {F : RG}
theorem slTo' {s : List UInt8} {hi : Nat} (h : hi ≤ s.length) (hk : KV (strV (s.take hi))) : aSlStr (strV s) none (some (vint hi)) KV := by
 show match (bif decide ((0 : Int) ≤ hi) then some (hi : Int).toNat else none) with
  | some u => (0 ≤ u ∧ u ≤ s.length) ∧ KV (.string ⟨⟨(s.take u).drop 0⟩⟩)
  | _ => False
 rw [decide_eq_true (by omega : (0 : Int) ≤ hi),cond_true]
 exact ⟨⟨by omega,by omega⟩,hk⟩
theorem slFr' {s : List UInt8} {lo : Nat} (h : lo ≤ s.length) (hk : KV (strV (s.drop lo))) : aSlStr (strV s) (some (vint lo)) none KV := by
 show match (bif decide ((0 : Int) ≤ lo) then some (lo : Int).toNat else none),some s.length with
  | some l,some u => (l ≤ u ∧ u ≤ s.length) ∧ KV (.string ⟨⟨(s.take u).drop l⟩⟩)
  | _,_ => False
 rw [decide_eq_true (by omega : (0 : Int) ≤ lo),cond_true]
 simp only [List.take_length]
 exact ⟨⟨by omega,by omega⟩,hk⟩
theorem eqS {t : TypeId} {a b : List UInt8} (hk : KV (.bool (decide (a = b)))) : aBin prog .eql t (strV a) (strV b) KV := by
 show KV (.bool ((ByteArray.mk ⟨a⟩).toList == (ByteArray.mk ⟨b⟩).toList))
 have e : ∀ l : List UInt8,(ByteArray.mk ⟨l⟩).toList = l := fun l => Lib.toList_data _
 rw [e,e,beqD]
 exact hk
theorem eqU {t : TypeId} {a b : UInt8} (hk : KV (.bool (decide (a = b)))) : aBin prog .eql t (.int .u8 a.toNat) (.int .u8 b.toNat) KV := by
 refine ⟨rfl,?_⟩
 show KV (.bool ((a.toNat : Int) == (b.toNat : Int)))
 have : ((a.toNat : Int) == (b.toNat : Int)) = decide (a = b) := by
  rw [beqD]
  congr 1
  exact propext ⟨fun h => UInt8.toNat_inj.1 (by omega),fun h => by rw [h]⟩
 rw [this]
 exact hk
theorem idS {s : List UInt8} {j : Nat} {b : UInt8} (hj : s[j]? = some b) (hk : KV (.int .u8 b.toNat)) : aIdxStr (strV s) (vint (j : Int)) KV := by
 show 0 ≤ (j : Int) ∧ match s[(j : Int).toNat]? with
  | some b => KV (.int .u8 b.toNat)
  | none => False
 refine ⟨by omega,?_⟩
 rw [Int.toNat_natCast,hj]
 exact hk
theorem good116 (hJ : Closed prog main J) {s p : List UInt8} (hK : K (.bool (p.isPrefixOf s)) H) : Good prog J 116 [strV s,strV p] H K := by
 refine g116 hJ fun ok => ?_
 rw [e116]
 refine lenStr (lenStr (geqI (cndI (fun h => lenStr (slTo' (by omega) (eqS (retL_same (by simp [unk]) ?_)))) fun h => retL_same (by simp [unk]) ?_)))
 ·have : decide (s.take p.length = p) = p.isPrefixOf s := by
   rw [Bool.eq_iff_iff,decide_eq_true_iff,List.isPrefixOf_iff_prefix,List.prefix_iff_eq_take]
   exact ⟨fun h => h.symm,fun h => h.symm⟩
  rw [this]
  simpa [pack] using hK
 ·have : p.isPrefixOf s = false := by
   cases hp : p.isPrefixOf s with
   | false => rfl
   | true => exact absurd (List.IsPrefix.length_le (List.isPrefixOf_iff_prefix.1 hp)) (by omega)
  rw [this] at hK
  simpa [pack] using hK
theorem good107 (hJ : Closed prog main J) {s p : List UInt8} (k1 : ∀ u,afterB p s = some u → u.length ≤ s.length → K (.tuple ⟨[strV u,.bool true]⟩) H) (k2 : afterB p s = none → K (.tuple ⟨[strV s,.bool false]⟩) H) : Good prog J 107 [strV s,strV p] H K := by
 refine g107 hJ fun ok => ?_
 rw [e107]
 refine good116 hJ (notI ?_)
 cases hp : p.isPrefixOf s with
 | true =>
  refine cnd_false.2 (lenStr (slFr' (List.IsPrefix.length_le (List.isPrefixOf_iff_prefix.1 hp)) (retL_same (by simp [unk,strV]) ?_)))
  exact k1 _ (after_true hp) (by simp)
 | false =>
  refine cnd_true.2 (retL_same (by simp [unk,strV]) ?_)
  exact k2 (after_false hp)
theorem good93 (hJ : Closed prog main J) {s p : List UInt8} (k1 : ∀ u,afterB p s = some u → u.length ≤ s.length → K (.tuple ⟨[strV u,.bool true]⟩) H) (k2 : afterB p s = none → K (.tuple ⟨[strV s,.bool false]⟩) H) : Good prog J 93 [strV s,strV p] H K := by
 refine g93 hJ fun ok => ?_
 rw [e93]
 exact good107 hJ (fun u h hl => ext0 (ext1 (retL_same (by simp [unk,strV]) (k1 u h hl)))) fun h => ext0 (ext1 (retL_same (by simp [unk,strV]) (k2 h)))
theorem good90 (hJ : Closed prog main J) {s : List UInt8} {c : UInt8} (hK : K (vint (s.count c : Nat)) H) : Good prog J 90 [strV s,strV [c]] H K := by
 refine g90 hJ fun ok => ?_
 rw [e90]
 refine lenStr (eqlI (cndI (fun h => absurd h (by simp)) fun _ => lenStr (eqlI (cndI (fun _ => idS (j := 0) rfl ?_) fun h => absurd rfl h))))
 exact good_count hJ (fn := f105) ⟨by kernel_rfl,by kernel_rfl,by kernel_rfl,by kernel_rfl,by kernel_rfl⟩ (retL_same (by simp [unk]) hK)
theorem good112 (hJ : Closed prog main J) {s : List UInt8} {c : UInt8} (hK : K (vint (Lib.indexByte s c)) H) : Good prog J 112 [strV s,.int .u8 c.toNat] H K := by
 refine g112 hJ fun ok => ?_
 rw [e112]
 exact good_idxB hJ (fn := f118) ⟨by kernel_rfl,by kernel_rfl,by kernel_rfl,by kernel_rfl,by kernel_rfl⟩ (retL_same (by simp [unk]) hK)
theorem good106a (hJ : Closed prog main J) {s : List UInt8} {c : UInt8} (hK : K (vint (Lib.indexByte s c)) H) : Good prog J 106 [strV s,strV [c]] H K := by
 refine g106 hJ fun ok => ?_
 rw [e106]
 refine lenStr (eqlI (cndI (fun h => absurd h (by simp)) fun _ => eqS (hold.2 ?_)))
 rw [s106_1]
 refine cndI (fun h => ?_) fun _ => ?_
 ·have h : [c] = s := h
  subst h
  refine retL_same (by simp [unk]) ?_
  simpa [Lib.indexByte,pack] using hK
 ·refine eqlI (cndI (fun _ => idS (s := [c]) (j := 0) rfl (good112 hJ (retL_same (by simp [unk]) hK))) fun h => absurd rfl h)
theorem good91a (hJ : Closed prog main J) {s : List UInt8} {c : UInt8} (hK : K (vint (Lib.indexByte s c)) H) : Good prog J 91 [strV s,strV [c]] H K := by
 refine g91 hJ fun ok => ?_
 rw [e91]
 exact good106a hJ (retL_same (by simp [unk]) hK)
theorem indexByte_cut {l : List UInt8} {c : UInt8} {o : Nat} (h : Lib.indexByte l c = o) : l = l.take o ++ c :: l.drop (o + 1) ∧ (∀ b ∈ l.take o,b ≠ c) ∧ o < l.length := by
 obtain ⟨h1,h2⟩ := Lib.indexByte_some h
 have hlt := (List.getElem?_eq_some_iff.1 h1).1
 refine ⟨?_,fun b hb e => ?_,hlt⟩
 ·have := (List.getElem?_eq_some_iff.1 h1).2
  rw [← this,List.getElem_cons_drop,List.take_append_drop]
 ·obtain ⟨i,hi⟩ := List.getElem?_of_mem hb
  rw [List.getElem?_take] at hi
  split at hi
  ·rename_i hio
   exact h2 i hio (by rw [hi,e])
  ·cases hi
theorem indexByte_none' {l : List UInt8} {c : UInt8} (h : Lib.indexByte l c < 0) : ∀ b ∈ l,b ≠ c := by
 have hn : Lib.indexByte l c = -1 := by have := Lib.indexByte_ge l c; omega
 intro b hb e
 obtain ⟨i,hi⟩ := List.getElem?_of_mem hb
 exact Lib.indexByte_none hn i (by rw [hi,e])
end
section
variable {main : Bool} {J : JT} {H : List AObj} {K : Value → List AObj → Prop} {KV : Value → Prop} {F : RG}
theorem slA2 {p n k : Nat} (h : k ≤ n ∧ n < fz) (hk : KV (.slice (some ⟨p,0,none⟩) k n)) : aSl2 1 (.slice (some ⟨p,0,none⟩) n n) none (some (vint k)) H KV := by
 show match (bif decide ((0 : Int) ≤ (k : Int)) then some (k : Int).toNat else none) with
  | some u => (0 ≤ u) ∧ ((n < fz → u ≤ n ∧ KV (.slice (some ⟨p,bif Nat.beq n 0 then 0 else 0 + 0 * 1,none⟩) (u - 0) (n - 0))) ∧ _)
  | _ => False
 rw [decide_eq_true (by omega : (0 : Int) ≤ (k : Int)),cond_true]
 refine ⟨Nat.zero_le _,fun _ => ⟨by omega,?_⟩,fun h' => absurd h.2 (Nat.not_lt.2 h')⟩
 have e : (bif Nat.beq n 0 then 0 else 0 + 0 * 1) = 0 := by cases Nat.beq n 0 <;> rfl
 rw [e]
 simpa using hk
theorem strs_ok (n : Nat) (l : List (List UInt8)) (wr : Bool) (sz : Nat) : objOk n (.cells (l.map strV) wr sz) := by
 simp only [objOk,LOk_iff]
 intro v hv
 obtain ⟨b,_,rfl⟩ := List.mem_map.1 hv
 simp [strV,VOk]
theorem good72 (hJ : Closed prog main J) {s : List UInt8} {c : UInt8} (hs : s.length ≤ 2000) (hK : K (.slice (some ⟨H.length,0,none⟩) (partsB c s).length (partsB c s).length) (H ++ [.cells ((partsB c s).map strV) true 0])) :
  Good prog J 72 [strV s,strV [c],vint 0,vint (-1)] H K := by
 refine g72 hJ fun ok => ?_
 rw [e72]
 have hcl : s.count c ≤ s.length := List.count_le_length
 have hfz : 100000 < fz := by decide
 refine eqlI (cndI (fun h => absurd h (by omega)) fun _ => eqS (cndI (fun h => absurd h (by simp)) fun _ => lssI (cndI (fun _ => ?_) fun h => absurd (by omega) h)))
 refine good90 hJ (addI (by omega) (hold.2 ?_))
 rw [s72_1]
 refine lenStr (addI (by omega) (minI ?_))
 have hmin : min (((s.count c : Nat) : Int) + 1) ((s.length : Int) + 1) = ((s.count c + 1 : Nat) : Int) := by omega
 rw [hmin]
 have hpc := partsB_count (c := c) s
 generalize hn : s.count c = n at *
 refine ⟨⟨rfl,by decide⟩,qMk (n := n + 1) (by omega) fun H1 p e1 S1 c1 l1 => subI (by omega) ?_⟩
 have hzr : zrep [Value.string { data := #[] }] (n + 1) = List.replicate (n + 1) (strV []) := by
  have : ∀ m,zrep [Value.string { data := #[] }] m = List.replicate m (strV []) := by
   intro m
   induction m with
   | zero => rfl
   | succ m ih =>
    show [Value.string { data := #[] }] ++ zrep _ m = _
    rw [ih]
    rfl
  exact this _
 rw [hzr] at c1
 refine l72_2 hJ (S := Nat × List UInt8) (fun x => x.2.length) (fun x F H' => ∃ done : List (List UInt8),done.length = x.1 ∧ partsB c s = done ++ partsB c x.2 ∧ x.2.length ≤ s.length ∧ x.1 ≤ n ∧ F.ds = [] ∧ F.r 0 = strV x.2 ∧ F.r 1 = strV [c] ∧ F.r 2 = vint 0 ∧ F.r 3 = vint ((n : Nat) : Int) ∧ F.r 9 = .slice (some ⟨p,0,none⟩) (n + 1) (n + 1) ∧ F.r 10 = vint (x.1 : Nat) ∧ SameX [] H H' ∧ H'[p]? = some (.cells (done.map strV ++ List.replicate (n + 1 - x.1) (strV [])) true 0)) ?_ (s := (0,s))
  (.inl ⟨[],rfl,rfl,Nat.le_refl _,Nat.zero_le _,rfl,rfl,rfl,rfl,by show vint _ = vint _; congr 1; omega,rfl,rfl,S1,by simpa using c1⟩)
 rintro ⟨i,r⟩ F H2 ⟨done,hd,hp,hrl,hin,ds,r0,r1,r2,r3,r9,r10,S2,c2⟩ ok2 hn2
 dsimp only at hd hp hrl hin r0 r10 c2
 rw [s72_2]
 simp only [ds,r0,r1,r2,r3,r9,r10]
 have hlen : done.length + (partsB c r).length = n + 1 := by rw [← List.length_append,← hp,hpc]
 have hrc := partsB_count (c := c) r
 have hset : ∀ u : List UInt8,(done.map strV ++ List.replicate (n + 1 - i) (strV [])).set i (strV u) = (done ++ [u]).map strV ++ List.replicate (n + 1 - (i + 1)) (strV []) := fun u => by
  rw [List.set_append_right _ _ (by simp [hd])]
  simp only [List.length_map,hd,Nat.sub_self,List.map_append,List.map_cons,List.map_nil,List.append_assoc]
  congr 1
  rw [show n + 1 - i = (n + 1 - (i + 1)) + 1 from by omega,List.replicate_succ]
  rfl
 refine lssI (cndI (fun hlt => ?_) fun hge => ?_)
 ·refine good91a hJ ?_
  have hge := Lib.indexByte_ge r c
  refine lssI (cndI (fun hneg => ?_) fun hpos => ?_)
  ·have h1 := partsB_one r (indexByte_none' hneg)
   rw [h1] at hlen
   simp at hlen
   omega
  obtain ⟨o,ho⟩ : ∃ o : Nat,Lib.indexByte r c = o := ⟨(Lib.indexByte r c).toNat,by omega⟩
  rw [ho]
  obtain ⟨hcut,hno,hol⟩ := indexByte_cut ho
  refine addI (by omega) ?_
  rw [show ((o : Int) + 0) = (o : Int) by omega]
  refine slTo' (by omega) (idxI ⟨by omega,by omega⟩ (qSt (v := strV (r.take o)) c2 (by simp [hd]; omega) rfl rfl fun H3 S3 c3 l3 => ?_))
  refine lenStr (s := [c]) (addI (by simp; omega) ?_)
  rw [show ((o : Int) + (([c] : List UInt8).length : Int)) = ((o + 1 : Nat) : Int) from rfl]
  refine slFr' (by omega) (addI (by omega) ?_)
  refine ⟨(i + 1,r.drop (o + 1)),by simp; omega,.inl ⟨done ++ [r.take o],by simp [hd],?_,by simp; omega,by omega,ds,rfl,r1,r2,r3,r9,rfl,S2.thru S3 ?_,?_⟩⟩
  ·rw [hp]
   conv => lhs; rw [hcut,partsB_cut _ _ hno]
   simp
  ·simp; omega
  ·rw [c3]
   congr 2
   rw [← hset]
   congr 1
   simp
 ·have hi : i = n := by omega
  have hl1 : (partsB c r).length = 1 := by omega
  have hr0 : r.count c = 0 := by omega
  have h1 := partsB_one (c := c) r fun b hb e => absurd (List.count_pos_iff.2 (e ▸ hb)) (by omega)
  rw [h1] at hp
  refine idxI ⟨by omega,by omega⟩ (qSt (v := strV r) c2 (by simp [hd]; omega) rfl rfl fun H3 S3 c3 l3 => ?_)
  refine addI (by omega) ?_
  rw [show ((i : Nat) : Int) + 1 = ((n + 1 : Nat) : Int) by omega]
  refine slA2 ⟨Nat.le_refl _,by omega⟩ ?_
  have c3' : H3[p]? = some (.cells ((partsB c s).map strV) true 0) := by
   rw [c3,hp]
   congr 2
   have := hset r
   rw [show n + 1 - (i + 1) = 0 by omega] at this
   simpa using this
  have S13 : SameX [] H H3 := S2.thru S3 (by simp; omega)
  obtain ⟨g,rfl⟩ := S13.app0 (by simp)
  rw [hpc] at hK
  exact retL_one ok (Nat.le_refl _) c3' (by omega) (strs_ok _ _ _ _) hK
theorem good56 (hJ : Closed prog main J) {s : List UInt8} {c : UInt8} (hs : s.length ≤ 2000) (hK : K (.slice (some ⟨H.length,0,none⟩) (partsB c s).length (partsB c s).length) (H ++ [.cells ((partsB c s).map strV) true 0])) :
  Good prog J 56 [strV s,strV [c]] H K := by
 refine g56 hJ fun ok => ?_
 rw [e56]
 exact good72 hJ hs (retL_one ok (Nat.le_refl _) (by simp) (Nat.le_refl _) (strs_ok _ _ _ _) hK)
end
end Go.Proofs.YtcmgjbflljmphaaGreatDoor
namespace Go.Proofs.YtcmgjbflljmphaaGreatDoor
open Go.Conc Go.Proofs.Tryz
set_option maxRecDepth 100000
set_option maxHeartbeats 4000000
set_option linter.unusedVariables false
section
variable {main : Bool} {J : JT} {n0 : Nat} {h : List AObj} {K : Value → List AObj → Prop}
theorem at75 : prog.funcs[75]? = some f75 := by kernel_rfl
theorem body75 : f75.body = some (codeOf f75) := by kernel_rfl
def pl75 : Plans := []
def ct75 : Cuts := .bin (.go) (.bin (.bin (.go) (.cut (.go))) (.bin (.go) (.bin (.bin (.go) (.un (.un (.bin (.go) (.bin (.go) (.bin (.un (.bin (.go) (.bin (.bin (.go) (.cut (.go))) (.go)))) (.go))))))) (.go))))
theorem pok75 : plansOk prog pl75 (codeOf f75) = true := by kernel_rfl
theorem e75 {a0 a1 : Value} : W prog J 52 h.length 75 (codeOf f75) (RG.mk (regs [a0,a1]) []) h (RetQ prog [.tmp 4] h.length K) =
(aLenStr a0 fun v1 =>
 aBin prog .lss 3 v1 (vint 1) fun v2 =>
 cnd v2
(Hold (W prog J 52 h.length 75 (subC [1,0,1] (codeOf f75)) (RG.p (RG.p (RG.p (RG.p (RG.p (RG.p (RG.p (RG.p (RG.p (RG.p (RG.p (RG.p (RG.p (RG.p (RG.p (RG.p (RG.p (RG.p (RG.p (RG.p (RG.p (RG.mk (regs [a0,a1]) []) 4 (Value.bool false)) 7 a0) 8 v1) 9 v2) 10 v2) 10 (Value.bool true)) 11 undef) 12 undef) 13 undef) 14 (Value.bool true)) 15 (Value.bool true)) 15 (Value.bool true)) 16 undef) 17 undef) 18 undef) 19 undef) 20 undef) 21 undef) 22 undef) 23 undef) 24 (Value.bool true)) h (contX pl75 prog J 52 h.length 75 ct75 [1,0,1] (codeOf f75) [] (RetQ prog [.tmp 4] h.length K))))
(aLenStr a0 fun v3 =>
 aBin prog .gtr 3 v3 (vint 2) fun v4 =>
 cnd v4
(Hold (W prog J 52 h.length 75 (subC [1,0,1] (codeOf f75)) (RG.p (RG.p (RG.p (RG.p (RG.p (RG.p (RG.p (RG.p (RG.p (RG.p (RG.p (RG.p (RG.p (RG.p (RG.p (RG.p (RG.p (RG.p (RG.p (RG.p (RG.p (RG.mk (regs [a0,a1]) []) 4 (Value.bool false)) 7 a0) 8 v1) 9 v2) 10 v2) 10 (Value.bool false)) 11 a0) 12 v3) 13 v4) 14 v4) 15 v4) 15 (Value.bool true)) 16 undef) 17 undef) 18 undef) 19 undef) 20 undef) 21 undef) 22 undef) 23 undef) 24 (Value.bool true)) h (contX pl75 prog J 52 h.length 75 ct75 [1,0,1] (codeOf f75) [] (RetQ prog [.tmp 4] h.length K))))
(aIdxStr a0 (vint 0) fun v5 =>
 aBin prog .eql 5 v5 (Value.int .u8 48) fun v6 =>
 cnd v6
(aLenStr a0 fun v7 =>
 aBin prog .gtr 3 v7 (vint 1) fun v8 =>
 Hold (W prog J 52 h.length 75 (subC [1,0,1] (codeOf f75)) (RG.p (RG.p (RG.p (RG.p (RG.p (RG.p (RG.p (RG.p (RG.p (RG.p (RG.p (RG.p (RG.p (RG.p (RG.p (RG.p (RG.p (RG.p (RG.p (RG.p (RG.p (RG.p (RG.mk (regs [a0,a1]) []) 4 (Value.bool false)) 7 a0) 8 v1) 9 v2) 10 v2) 10 (Value.bool false)) 11 a0) 12 v3) 13 v4) 14 v4) 15 v4) 15 (Value.bool false)) 16 a0) 17 v5) 18 v6) 19 v6) 19 (Value.bool true)) 20 a0) 21 v7) 22 v8) 23 v8) 24 v8) h (contX pl75 prog J 52 h.length 75 ct75 [1,0,1] (codeOf f75) [] (RetQ prog [.tmp 4] h.length K))))
(Hold (W prog J 52 h.length 75 (subC [1,0,1] (codeOf f75)) (RG.p (RG.p (RG.p (RG.p (RG.p (RG.p (RG.p (RG.p (RG.p (RG.p (RG.p (RG.p (RG.p (RG.p (RG.p (RG.p (RG.p (RG.p (RG.p (RG.p (RG.p (RG.p (RG.mk (regs [a0,a1]) []) 4 (Value.bool false)) 7 a0) 8 v1) 9 v2) 10 v2) 10 (Value.bool false)) 11 a0) 12 v3) 13 v4) 14 v4) 15 v4) 15 (Value.bool false)) 16 a0) 17 v5) 18 v6) 19 v6) 19 (Value.bool false)) 20 undef) 21 undef) 22 undef) 23 (Value.bool false)) 24 (Value.bool false)) h (contX pl75 prog J 52 h.length 75 ct75 [1,0,1] (codeOf f75) [] (RetQ prog [.tmp 4] h.length K))))))) := top_eq pok75 ct75 (by kernel_rfl)
theorem g75 (hJ : Closed prog main J) {a0 a1 : Value} (hs : heapOk h → W prog J 52 h.length 75 (codeOf f75) (RG.mk (regs [a0,a1]) []) h (RetQ prog [.tmp 4] h.length K)) : Good prog J 75 [a0,a1] h K :=
 good_of_W hJ mixed at75 body75 (by kernel_rfl) (Nat.le_of_ble_eq_true rfl) hs
theorem s75_1 {f : RG} : W prog J 52 n0 75 (subC [1,0,1] (codeOf f75)) f h (contX pl75 prog J 52 n0 75 ct75 [1,0,1] (codeOf f75) [] (RetQ prog [.tmp 4] n0 K)) =
(cnd (f.r 24)
(retL n0 K f.ds [(Value.bool false)] h)
(aLenStr (f.r 0) fun v1 =>
 Sem J 52 n0 75 (subC yp0 (codeOf f75)) (RG.p (RG.p (RG.p (RG.p f 5 (vint 0)) 25 (f.r 0)) 26 v1) 27 (vint 0)) h (contX pl75 prog J 52 n0 75 ct75 yp0 (codeOf f75) [] (RetQ prog [.tmp 4] n0 K)))) := sub_eq pok75 ct75 (by kernel_rfl)
theorem s75_2 {f : RG} {nx0 : RG → List AObj → Prop} : W prog J 52 n0 75 (subC yp3 (codeOf f75)) f h (thenK nx0 (contX pl75 prog J 52 n0 75 ct75 yp0 (codeOf f75) [] (RetQ prog [.tmp 4] n0 K))) =
(aBin prog .lss 3 (f.r 27) (f.r 26) fun v1 =>
 cnd v1
(aIdxStr (f.r 0) (f.r 27) fun v2 =>
 aBin prog .lss 5 v2 (Value.int .u8 48) fun v3 =>
 cnd v3
(Hold (W prog J 52 n0 75 (subC yp11 (codeOf f75)) (RG.p (RG.p (RG.p (RG.p (RG.p (RG.p (RG.p (RG.p (RG.p (RG.p (RG.p (RG.p (RG.p (RG.p f 28 v1) 29 (f.r 27)) 6 (f.r 27)) 30 (f.r 0)) 31 (f.r 27)) 32 v2) 33 v3) 34 v3) 34 (Value.bool true)) 35 undef) 36 undef) 37 undef) 38 undef) 39 (Value.bool true)) h (contX pl75 prog J 52 n0 75 ct75 yp11 (codeOf f75) [nx0] (RetQ prog [.tmp 4] n0 K))))
(aIdxStr (f.r 0) (f.r 27) fun v4 =>
 aBin prog .gtr 5 v4 (Value.int .u8 57) fun v5 =>
 Hold (W prog J 52 n0 75 (subC yp11 (codeOf f75)) (RG.p (RG.p (RG.p (RG.p (RG.p (RG.p (RG.p (RG.p (RG.p (RG.p (RG.p (RG.p (RG.p (RG.p f 28 v1) 29 (f.r 27)) 6 (f.r 27)) 30 (f.r 0)) 31 (f.r 27)) 32 v2) 33 v3) 34 v3) 34 (Value.bool false)) 35 (f.r 0)) 36 (f.r 27)) 37 v4) 38 v5) 39 v5) h (contX pl75 prog J 52 n0 75 ct75 yp11 (codeOf f75) [nx0] (RetQ prog [.tmp 4] n0 K)))))
(aNil (f.r 1) fun v6 =>
 aStore 1 v6 (f.r 5) h fun h7 =>
 retL n0 K f.ds [(Value.bool true)] h7)) := sub_eq pok75 ct75 (by kernel_rfl)
theorem l75_2 (hJ : Closed prog main J) {S : Type} (μ : S → Nat) (I : S → RG → List AObj → Prop) (hI : ∀ s f h,I s f h → heapOk h → n0 ≤ h.length → W prog J 52 n0 75 (subC yp3 (codeOf f75)) f h (thenK (Nx n0 μ I s) (contX pl75 prog J 52 n0 75 ct75 yp0 (codeOf f75) [] (RetQ prog [.tmp 4] n0 K))))
 {s : S} {f : RG} (hi : Gets n0 I s f h) : Sem J 52 n0 75 (subC yp0 (codeOf f75)) f h (contX pl75 prog J 52 n0 75 ct75 yp0 (codeOf f75) [] (RetQ prog [.tmp 4] n0 K)) :=
 loop_rule hJ mixed (b := subC yp3 (codeOf f75)) (by kernel_rfl) μ I hI hi
theorem s75_3 {f : RG} {nx0 : RG → List AObj → Prop} : W prog J 52 n0 75 (subC yp11 (codeOf f75)) f h (contX pl75 prog J 52 n0 75 ct75 yp11 (codeOf f75) [nx0] (RetQ prog [.tmp 4] n0 K)) =
(cnd (f.r 39)
(retL n0 K f.ds [(Value.bool false)] h)
(aBin prog .mul 3 (f.r 5) (vint 10) fun v1 =>
 aIdxStr (f.r 0) (f.r 6) fun v2 =>
 aBin prog .sub 5 v2 (Value.int .u8 48) fun v3 =>
 aConvI .i64 v3 fun v4 =>
 aBin prog .add 3 v1 v4 fun v5 =>
 aBin prog .add 3 (f.r 27) (vint 1) fun v6 =>
 nx0 (RG.p (RG.p (RG.p (RG.p (RG.p (RG.p (RG.p (RG.p (RG.p (RG.p (RG.p f 40 (f.r 5)) 41 v1) 42 (f.r 0)) 43 (f.r 6)) 44 v2) 45 v3) 46 v4) 47 v5) 5 v5) 48 v6) 27 v6) h)) := sub_eq pok75 ct75 (by kernel_rfl)
theorem at76 : prog.funcs[76]? = some f76 := by kernel_rfl
theorem body76 : f76.body = some (codeOf f76) := by kernel_rfl
def pl76 : Plans := []
def ct76 : Cuts := .go
theorem pok76 : plansOk prog pl76 (codeOf f76) = true := by kernel_rfl
theorem e76 {a0 a1 a2 : Value} : W prog J 21 h.length 76 (codeOf f76) (RG.mk (regs [a0,a1,a2]) []) h (RetQ prog [.tmp 6] h.length K) =
(Good prog J 93 [a0,a1] h fun v1 h2 =>
 aExt v1 0 fun v3 =>
 aExt v1 1 fun v4 =>
 cnd v4
(Good prog J 75 [v3,a2] h2 fun v5 h6 =>
 retL h.length K [] [v5] h6)
(retL h.length K [] [(Value.bool false)] h2)) := top_eq pok76 ct76 (by kernel_rfl)
theorem g76 (hJ : Closed prog main J) {a0 a1 a2 : Value} (hs : heapOk h → W prog J 21 h.length 76 (codeOf f76) (RG.mk (regs [a0,a1,a2]) []) h (RetQ prog [.tmp 6] h.length K)) : Good prog J 76 [a0,a1,a2] h K :=
 good_of_W hJ mixed at76 body76 (by kernel_rfl) (Nat.le_of_ble_eq_true rfl) hs
end
end Go.Proofs.YtcmgjbflljmphaaGreatDoor
namespace Go.Proofs.YtcmgjbflljmphaaGreatDoor
open Go.Conc Go.Proofs.Tryz
set_option maxRecDepth 100000
theorem take_snoc {s : List UInt8} {k : Nat} {b : UInt8} (h : s[k]? = some b) : s.take (k + 1) = s.take k ++ [b] := by
 rw [List.take_add_one,h]
 rfl
theorem wrap_u8 {n : Int} (h1 : 0 ≤ n) (h2 : n < 256) : IntKind.u8.wrap n = n := by
 simp only [IntKind.wrap,IntKind.bits,IntKind.signed]
 simp
 omega
section
variable {main : Bool} {J : JT} {H : List AObj} {K : Value → List AObj → Prop} {KV : Value → Prop} {F : RG} {n0 p o : Nat} {cs : List Value} {s : List UInt8} {c : UInt8}
theorem neS {t : TypeId} {a b : List UInt8} (hk : KV (.bool (decide (a ≠ b)))) : aBin prog .neq t (strV a) (strV b) KV := by
 show KV (.bool (!((ByteArray.mk ⟨a⟩).toList == (ByteArray.mk ⟨b⟩).toList)))
 have e : ∀ l : List UInt8,(ByteArray.mk ⟨l⟩).toList = l := fun l => Lib.toList_data _
 rw [e,e,beqD,← decide_not]
 exact hk
theorem lenSl {b : Option Addr} {n c : Nat} (hk : KV (vint (n : Nat))) : aLenS (.slice b n c) KV := hk
theorem lssK {t : TypeId} {k : IntKind} {a b : Int} (hk : KV (.bool (decide (a < b)))) : aBin prog .lss t (.int k a) (.int k b) KV := ⟨rfl,hk⟩
theorem gtrK {t : TypeId} {k : IntKind} {a b : Int} (hk : KV (.bool (decide (a > b)))) : aBin prog .gtr t (.int k a) (.int k b) KV := ⟨rfl,hk⟩
theorem cvK {k k' : IntKind} {n : Int} (hw : k.wrap n = n) (hk : KV (.int k n)) : aConvI k (.int k' n) KV := by
 show KV (.int k (k.wrap n))
 rw [hw]
 exact hk
theorem cvI64 {x : Int} (h : 0 ≤ x ∧ x < 256) (hk : KV (vint x)) : aConvI .i64 (.int .u8 x) KV := by
 refine cvK ?_ hk
 simp only [IntKind.wrap,IntKind.bits,IntKind.signed]
 simp
 omega
theorem subU {t : TypeId} {a : Int} (h : 48 ≤ a ∧ a < 256) (hk : KV (.int .u8 (a - 48))) : aBin prog .sub t (.int .u8 a) (.int .u8 48) KV := ⟨rfl,by
 show KV (.int .u8 (IntKind.u8.wrap (a - 48)))
 rw [wrap_u8 (by omega) (by omega)]
 exact hk⟩
theorem eqU48 {t : TypeId} {a : UInt8} (hk : KV (.bool (decide (a = 48)))) : aBin prog .eql t (.int .u8 a.toNat) (.int .u8 48) KV := eqU (b := 48) hk
theorem num_1 (hJ : Closed prog main J) {d : List UInt8} (ds : F.ds = []) (r0 : F.r 0 = strV d) (r1 : F.r 1 = ptr p o) (cb : H[p]? = some (.cells cs true 0)) (ho : o < cs.length) {pre : Bool} (r24 : F.r 24 = .bool (!pre)) (hpre : pre = true → d.length ≤ 3)
  (k1 : (pre && d.all isDig) = true → ∀ H',SameX [p] H H' → H'[p]? = some (.cells (cs.set o (vint (valB d))) true 0) → K (.bool true) H') (k2 : (pre && d.all isDig) = false → K (.bool false) H) :
  W prog J 52 n0 75 (subC [1,0,1] (codeOf f75)) F H (contX pl75 prog J 52 n0 75 ct75 [1,0,1] (codeOf f75) [] (RetQ prog [.tmp 4] n0 K)) := by
 rw [s75_1]
 simp only [ds,r0,r24]
 cases pre with
 | false => exact cnd_true.2 (retL_same (by simp [unk]) (k2 rfl))
 | true =>
  have hd3 := hpre rfl
  simp only [Bool.true_and] at k1 k2
  refine cnd_false.2 (lenStr ?_)
  refine l75_2 hJ (S := Nat) (fun i => d.length + 1 - i) (fun i F H' => H' = H ∧ i ≤ d.length ∧ F.ds = [] ∧ F.r 0 = strV d ∧ F.r 1 = ptr p o ∧ F.r 26 = vint (d.length : Nat) ∧ F.r 27 = vint (i : Nat) ∧ F.r 5 = vint (valB (d.take i)) ∧ (d.take i).all isDig = true) ?_ (s := 0) (.inl ⟨rfl,Nat.zero_le _,ds,r0,r1,rfl,rfl,rfl,rfl⟩)
  rintro i F H' ⟨rfl,hi,ds,r0,r1,r26,r27,r5,hall⟩ ok' hn'
  rw [s75_2]
  simp only [ds,r0,r1,r5,r26,r27]
  have hbd := valB_small hall (by simp; omega)
  refine lssI (cndI (fun hlt => ?_) fun hge => ?_)
  ·have hil : i < d.length := by omega
   have hx : d[i]? = some d[i] := List.getElem?_eq_getElem hil
   generalize d[i] = x at hx
   have hxl := x.toNat_lt
   have htk := take_snoc hx
   have bad : isDig x = false → d.all isDig = false := fun h => by
    cases ha : d.all isDig with
    | false => rfl
    | true =>
     rw [List.all_eq_true] at ha
     rw [ha x (List.mem_of_getElem? hx)] at h
     cases h
   have out : ∀ {F : RG} {b2 : Bool},F.ds = [] → F.r 39 = .bool b2 → F.r 5 = vint (valB (d.take i)) → F.r 0 = strV d → F.r 1 = ptr p o → F.r 6 = vint (i : Nat) → F.r 26 = vint (d.length : Nat) → F.r 27 = vint (i : Nat) → isDig x = !b2 → _ := fun {F b2} ds r39 r5 r0 r1 r6 r26 r27 hdig => show W prog J 52 n0 75 (subC yp11 (codeOf f75)) F H' (contX pl75 prog J 52 n0 75 ct75 yp11 (codeOf f75) [Nx n0 (fun i => d.length + 1 - i) (fun i F H2 => H2 = H' ∧ i ≤ d.length ∧ F.ds = [] ∧ F.r 0 = strV d ∧ F.r 1 = ptr p o ∧ F.r 26 = vint (d.length : Nat) ∧ F.r 27 = vint (i : Nat) ∧ F.r 5 = vint (valB (d.take i)) ∧ (d.take i).all isDig = true) i] (RetQ prog [.tmp 4] n0 K)) by
    rw [s75_3]
    simp only [ds,r39,r5,r0,r6,r27]
    cases b2 with
    | true => exact cnd_true.2 (retL_same (by simp [unk]) (k2 (bad hdig)))
    | false =>
     have hdig : isDig x = true := hdig
     rw [isDig_iff] at hdig
     refine cnd_false.2 (mulI ⟨by omega,by omega⟩ (idS hx (subU ⟨by omega,by omega⟩ (cvI64 ⟨by omega,by omega⟩ (addI ⟨by omega,by omega⟩ (addI ⟨by omega,by omega⟩ ⟨i + 1,by dsimp only; omega,.inl ⟨rfl,by omega,ds,r0,r1,r26,rfl,?_,?_⟩⟩))))))
     ·show vint _ = vint _
      rw [htk,valB_snoc]
     ·rw [htk,List.all_append,hall]
      simp [isDig_iff,hdig]
   refine idS hx (lssK (cndI (fun hlo => hold.2 ?_) fun hlo => idS hx (gtrK (hold.2 ?_))))
   ·exact out ds rfl r5 r0 r1 rfl r26 r27 (by
     have : ¬ (48 ≤ x.toNat) := by omega
     simp [isDig,this])
   ·refine out ds rfl r5 r0 r1 rfl r26 r27 ?_
    have h48 : 48 ≤ x.toNat := by omega
    simp only [isDig,decide_eq_true h48,Bool.true_and]
    rw [← decide_not]
    congr 1
    exact propext ⟨fun h => by omega,fun h => by omega⟩
  ·have hid : i = d.length := by omega
   subst hid
   rw [List.take_length] at hall hbd
   simp only [List.take_length]
   exact nilI (qSt cb ho rfl rfl fun H2 S2 c2 _ => retL_same (by simp [unk]) (k1 hall H2 S2 c2))
theorem good75 (hJ : Closed prog main J) {d : List UInt8} (cb : H[p]? = some (.cells cs true 0)) (ho : o < cs.length) (k1 : ∀ n H',unsT d = some n → SameX [p] H H' → H'[p]? = some (.cells (cs.set o (vint n)) true 0) → K (.bool true) H') (k2 : unsT d = none → K (.bool false) H) : Good prog J 75 [strV d,ptr p o] H K := by
 refine g75 hJ fun ok => ?_
 rw [e75]
 unfold unsT dig2 at k1 k2
 have k1 : ∀ pre,pre = (decide (1 ≤ d.length) && decide (d.length ≤ 2) && !(d.head? == some 48 && decide (1 < d.length))) → (pre && d.all isDig) = true → ∀ H',SameX [p] H H' → H'[p]? = some (.cells (cs.set o (vint (valB d))) true 0) → K (.bool true) H' := fun pre e h H' => k1 _ H' (by rw [← e,if_pos h])
 have k2 : ∀ pre,pre = (decide (1 ≤ d.length) && decide (d.length ≤ 2) && !(d.head? == some 48 && decide (1 < d.length))) → (pre && d.all isDig) = false → K (.bool false) H := fun pre e h => k2 (by rw [← e,if_neg (by simp [h])])
 have go : ∀ {F : RG} (pre : Bool),F.ds = [] → F.r 0 = strV d → F.r 1 = ptr p o → F.r 24 = .bool (!pre) → pre = (decide (1 ≤ d.length) && decide (d.length ≤ 2) && !(d.head? == some 48 && decide (1 < d.length))) → _ := fun {F} pre ds r0 r1 r24 hp =>
  num_1 (n0 := H.length) (F := F) hJ ds r0 r1 cb ho r24 (fun h => by
   rw [h] at hp
   have := hp.symm
   simp only [Bool.and_eq_true,decide_eq_true_eq] at this
   omega) (k1 pre hp) (k2 pre hp)
 refine lenStr (lssI (cndI (fun h => hold.2 ?_) fun h1 => lenStr (gtrI (cndI (fun h => hold.2 ?_) fun h3 => ?_))))
 ·exact go false rfl rfl rfl rfl (by rw [decide_eq_false (by omega : ¬ 1 ≤ d.length)]; rfl)
 ·exact go false rfl rfl rfl rfl (by rw [decide_eq_false (by omega : ¬ d.length ≤ 2),Bool.and_false]; rfl)
 ·cases d with
  | nil => exact absurd (by simp) h1
  | cons x r =>
   have e1 : decide (1 ≤ (x :: r).length) = true := decide_eq_true (by simp)
   have e3 : decide ((x :: r).length ≤ 2) = true := decide_eq_true (by omega)
   rw [e1,e3] at go
   simp only [Bool.true_and,List.head?_cons] at go
   refine idS (j := 0) (b := x) rfl (eqU48 (cndI (fun hx => ?_) fun hx => hold.2 ?_))
   ·subst hx
    refine lenStr (gtrI (hold.2 (go (!decide (1 < (48 :: r : List UInt8).length)) rfl rfl rfl ?_ (by simp))))
    rw [Bool.not_not]
    show Value.bool _ = Value.bool _
    congr 1
    exact decide_eq_decide.2 ⟨fun h => by omega,fun h => by omega⟩
   ·exact go true rfl rfl rfl rfl (by
     have : (some x == some (48 : UInt8)) = false := by simpa using hx
     rw [this]
     rfl)
theorem sgnT_after (c : UInt8) (s : List UInt8) : sgnT c s = (afterB [c] s).bind unsT := by
 cases s with
 | nil => rfl
 | cons x r =>
  show (if x = c then unsT r else none) = _
  by_cases h : x = c
  ·subst h
   rw [if_pos rfl,after_true (p := [x]) (w := x :: r) (by simp [List.isPrefixOf])]
   rfl
  ·rw [if_neg h,after_false (p := [c]) (w := x :: r) (by simp [List.isPrefixOf,Ne.symm h])]
   rfl
theorem good76 (hJ : Closed prog main J) (cb : H[p]? = some (.cells cs true 0)) (ho : o < cs.length) (k1 : ∀ n H',sgnT c s = some n → SameX [p] H H' → H'[p]? = some (.cells (cs.set o (vint n)) true 0) → K (.bool true) H') (k2 : sgnT c s = none → K (.bool false) H) : Good prog J 76 [strV s,strV [c],ptr p o] H K := by
 rw [sgnT_after] at k1 k2
 refine g76 hJ fun ok => ?_
 rw [e76]
 refine good93 hJ (fun u hu hl => ?_) fun hu => ?_
 ·rw [hu] at k1 k2
  exact ext0 (ext1 (cnd_true.2 (good75 hJ cb ho (fun n H' h1 h2 h3 => retL_same (by simp [unk]) (k1 n H' h1 h2 h3)) fun h => retL_same (by simp [unk]) (k2 h))))
 ·rw [hu] at k2
  exact ext0 (ext1 (cnd_false.2 (retL_same (by simp [unk]) (k2 rfl))))
theorem good92b (hJ : Closed prog main J) (hs : s.length ≤ 2000) (k1 : ∀ a b,s = a ++ c :: b → (∀ x ∈ a,x ≠ c) → K (.tuple ⟨[strV a,strV b,.bool true]⟩) H) (k2 : (∀ x ∈ s,x ≠ c) → K (.tuple ⟨[strV s,strV [],.bool false]⟩) H) :
  Good prog J 92 [strV s,strV [c]] H K := by
 refine g92 hJ fun ok => ?_
 rw [e92]
 refine good106a hJ ?_
 have hge := Lib.indexByte_ge s c
 by_cases hneg : Lib.indexByte s c < 0
 ·have h1 : Lib.indexByte s c = -1 := by omega
  rw [h1]
  refine geqI (cndI (fun h => absurd h (by decide)) fun _ => retL_same (by simp [unk,strV]) (k2 (indexByte_none' hneg)))
 ·obtain ⟨i,ho⟩ : ∃ o : Nat,Lib.indexByte s c = o := ⟨(Lib.indexByte s c).toNat,by omega⟩
  obtain ⟨hcut,hno,hol⟩ := indexByte_cut ho
  rw [ho]
  refine geqI (cndI (fun _ => ⟨[],lenStr (s := [c]) ⟨trivial,addI (by simp; omega) ?_⟩⟩) fun h => absurd (Int.natCast_nonneg i) h)
  rw [show ((i : Nat) : Int) + (([c] : List UInt8).length : Int) = ((i + 1 : Nat) : Int) from rfl]
  have fin := k1 _ _ hcut hno
  exact ⟨slTo' (by omega) ⟨fun _ _ => rfl,slFr' hol ⟨fun _ _ => rfl,retL_same (by simp [unk,strV]) fin⟩⟩,slFr' hol ⟨fun _ _ => rfl,slTo' (by omega) ⟨fun _ _ => rfl,retL_same (by simp [unk,strV]) fin⟩⟩⟩
theorem good74b (hJ : Closed prog main J) (hs : s.length ≤ 2000) (k1 : ∀ a b,s = a ++ c :: b → (∀ x ∈ a,x ≠ c) → K (.tuple ⟨[strV a,strV b,.bool true]⟩) H) (k2 : (∀ x ∈ s,x ≠ c) → K (.tuple ⟨[strV s,strV [],.bool false]⟩) H) :
  Good prog J 74 [strV s,strV [c]] H K := by
 refine g74 hJ fun ok => ?_
 rw [e74]
 exact good92b hJ hs (fun a b h1 h2 => ext30 (ext31 (ext32 (retL_same (by simp [unk,strV]) (k1 a b h1 h2))))) fun h => ext30 (ext31 (ext32 (retL_same (by simp [unk,strV]) (k2 h))))
end
end Go.Proofs.YtcmgjbflljmphaaGreatDoor
namespace Go.Proofs.YtcmgjbflljmphaaGreatDoor
open Go.Conc Go.Proofs.Tryz
set_option maxRecDepth 100000
set_option maxHeartbeats 4000000
set_option linter.unusedVariables false
section
variable {main : Bool} {J : JT} {n0 : Nat} {h : List AObj} {K : Value → List AObj → Prop}
theorem at73 : prog.funcs[73]? = some f73 := by kernel_rfl
theorem body73 : f73.body = some (codeOf f73) := by kernel_rfl
def pl73 : Plans := [(5,false,.take 0 (.take 1 (.take 2 (.take 3 (.take 4 (.take 5 (.take 6 (.take 7 (.last 8 true (.take 9 (.take 10 (.take 11 (.take 12 (.take 13 (.take 14 (.take 15 (.take 16 (.last 17 true (.take 18 (.take 19 (.take 20 (.take 21 (.take 22 (.take 23 (.take 24 (.take 25 (.take 26 (.take 27 (.last 28 true (.take 29 (.take 30 (.fin))))))))))))))))))))))))))))))))]
def ct73 : Cuts := .bin (.go) (.bin (.bin (.go) (.cut (.go))) (.go))
theorem pok73 : plansOk prog pl73 (codeOf f73) = true := by kernel_rfl
theorem e73 {a0 a1 : Value} : W prog J 57 h.length 73 (codeOf f73) (RG.mk (regs [a0,a1]) []) h (RetQ prog [.tmp 3] h.length K) =
(aLenS a0 fun v1 =>
 aBin prog .neq 3 v1 (vint 3) fun v2 =>
 cnd v2
(Hold (W prog J 57 h.length 73 (subC [1,0,1] (codeOf f73)) (RG.p (RG.p (RG.p (RG.p (RG.p (RG.p (RG.p (RG.p (RG.p (RG.p (RG.p (RG.mk (regs [a0,a1]) []) 3 (Value.bool false)) 7 a0) 8 v1) 9 v2) 10 v2) 10 (Value.bool true)) 11 undef) 12 undef) 13 undef) 14 undef) 15 (Value.bool true)) h (contX pl73 prog J 57 h.length 73 ct73 [1,0,1] (codeOf f73) [] (RetQ prog [.tmp 3] h.length K))))
(aLoad false 1 a1 h fun v3 =>
 aNil v3 fun v4 =>
 aOff v4 4 fun v5 =>
 aLoad false 1 v5 h fun v6 =>
 Hold (W prog J 57 h.length 73 (subC [1,0,1] (codeOf f73)) (RG.p (RG.p (RG.p (RG.p (RG.p (RG.p (RG.p (RG.p (RG.p (RG.p (RG.p (RG.mk (regs [a0,a1]) []) 3 (Value.bool false)) 7 a0) 8 v1) 9 v2) 10 v2) 10 (Value.bool false)) 11 v3) 12 v4) 13 v5) 14 v6) 15 v6) h (contX pl73 prog J 57 h.length 73 ct73 [1,0,1] (codeOf f73) [] (RetQ prog [.tmp 3] h.length K))))) := top_eq pok73 ct73 (by kernel_rfl)
theorem g73 (hJ : Closed prog main J) {a0 a1 : Value} (hs : heapOk h → W prog J 57 h.length 73 (codeOf f73) (RG.mk (regs [a0,a1]) []) h (RetQ prog [.tmp 3] h.length K)) : Good prog J 73 [a0,a1] h K :=
 good_of_W hJ mixed at73 body73 (by kernel_rfl) (Nat.le_of_ble_eq_true rfl) hs
theorem s73_1 {f : RG} : W prog J 57 n0 73 (subC [1,0,1] (codeOf f73)) f h (contX pl73 prog J 57 n0 73 ct73 [1,0,1] (codeOf f73) [] (RetQ prog [.tmp 3] n0 K)) =
(cnd (f.r 15)
(retL n0 K f.ds [(Value.bool false)] h)
(aIdx 1 (f.r 0) (vint 1) fun v1 =>
 aLoad false 1 v1 h fun v2 =>
 Good prog J 74 [v2,(Value.string { data := #[47] })] h fun v3 h4 =>
 aExt v3 0 fun v5 =>
 aExt v3 1 fun v6 =>
 aExt v3 2 fun v7 =>
 aLoad false 1 (f.r 1) h4 fun v8 =>
 aNil v8 fun v9 =>
 aOff v9 4 fun v10 =>
 aStore 1 v10 (Value.bool true) h4 fun h11 =>
(∃ B,cnd v7
(aLoad false 1 (f.r 1) h11 fun v12 =>
 RdOk (some B) (ptrBlk (f.r 1)) ∧ (aNil v12 fun v13 =>
 aOff v13 0 fun v14 =>
 aOff v14 0 fun v15 =>
 aOff v15 0 fun v16 =>
 Good prog J 75 [v5,v16] h11 fun v17 h18 =>
 SameB (some B) h11 h18 ∧ (cnd v17
(aLoad false 1 (f.r 1) h18 fun v19 =>
 RdOk (some B) (ptrBlk (f.r 1)) ∧ (aNil v19 fun v20 =>
 aOff v20 0 fun v21 =>
 aOff v21 0 fun v22 =>
 aOff v22 1 fun v23 =>
 Good prog J 75 [v6,v23] h18 fun v24 h25 =>
 SameB (some B) h11 h25 ∧ (cnd v24
(aIdx 1 (f.r 0) (vint 2) fun v26 =>
 aLoad false 1 v26 h25 fun v27 =>
 RdOk (some B) (ptrBlk v26) ∧ (aLoad false 1 (f.r 1) h25 fun v28 =>
 RdOk (some B) (ptrBlk (f.r 1)) ∧ (aNil v28 fun v29 =>
 aOff v29 0 fun v30 =>
 aOff v30 0 fun v31 =>
 aOff v31 2 fun v32 =>
 Good prog J 76 [v27,(Value.string { data := #[43] }),v32] h25 fun v33 h34 =>
 SameB (some B) h11 h34 ∧ (retL n0 K f.ds [v33] h34))))
(retL n0 K f.ds [(Value.bool false)] h25))))
(retL n0 K f.ds [(Value.bool false)] h18))))
(retL n0 K f.ds [(Value.bool false)] h11)))) := sub_eq pok73 ct73 (by kernel_rfl)
end
section
variable {main : Bool} {J : JT} {n0 : Nat} {h : List AObj} {K : Value → List AObj → Prop}
theorem at77 : prog.funcs[77]? = some f77 := by kernel_rfl
theorem body77 : f77.body = some (codeOf f77) := by kernel_rfl
def pl77 : Plans := [(4,false,.take 0 (.take 1 (.take 2 (.take 3 (.take 4 (.take 5 (.take 6 (.last 7 true (.last 8 true (.take 9 (.take 10 (.take 11 (.last 12 false (.fin))))))))))))))]
def ct77 : Cuts := .bin (.go) (.bin (.go) (.bin (.bin (.go) (.cut (.go))) (.go)))
theorem pok77 : plansOk prog pl77 (codeOf f77) = true := by kernel_rfl
theorem e77 {a0 a1 : Value} : W prog J 43 h.length 77 (codeOf f77) (RG.mk (regs [a0,a1]) []) h (RetQ prog [.tmp 3] h.length K) =
(aAlloc [(vint 0),(vint 0)] h fun v1 h2 =>
 aLenS a0 fun v3 =>
 aBin prog .neq 3 v3 (vint 3) fun v4 =>
 cnd v4
(Hold (W prog J 43 h.length 77 (subC [1,1,0,1] (codeOf f77)) (RG.p (RG.p (RG.p (RG.p (RG.p (RG.p (RG.p (RG.p (RG.p (RG.p (RG.p (RG.p (RG.p (RG.p (RG.p (RG.p (RG.p (RG.p (RG.p (RG.p (RG.p (RG.p (RG.p (RG.p (RG.p (RG.p (RG.p (RG.p (RG.p (RG.p (RG.p (RG.mk (regs [a0,a1]) []) 3 (Value.bool false)) 4 v1) 5 a0) 6 v3) 7 v4) 8 v4) 8 (Value.bool true)) 9 undef) 10 undef) 11 undef) 12 undef) 13 undef) 14 (Value.bool true)) 15 (Value.bool true)) 15 (Value.bool true)) 16 undef) 17 undef) 18 undef) 19 undef) 20 undef) 21 undef) 22 (Value.bool true)) 23 (Value.bool true)) 23 (Value.bool true)) 24 undef) 25 undef) 26 undef) 27 undef) 28 undef) 29 undef) 30 (Value.bool true)) h2 (contX pl77 prog J 43 h.length 77 ct77 [1,1,0,1] (codeOf f77) [] (RetQ prog [.tmp 3] h.length K))))
(aLoad false 1 a1 h2 fun v5 =>
 aNil v5 fun v6 =>
 aOff v6 4 fun v7 =>
 aLoad false 1 v7 h2 fun v8 =>
 aUn .not v8 fun v9 =>
 cnd v9
(Hold (W prog J 43 h.length 77 (subC [1,1,0,1] (codeOf f77)) (RG.p (RG.p (RG.p (RG.p (RG.p (RG.p (RG.p (RG.p (RG.p (RG.p (RG.p (RG.p (RG.p (RG.p (RG.p (RG.p (RG.p (RG.p (RG.p (RG.p (RG.p (RG.p (RG.p (RG.p (RG.p (RG.p (RG.p (RG.p (RG.p (RG.p (RG.p (RG.mk (regs [a0,a1]) []) 3 (Value.bool false)) 4 v1) 5 a0) 6 v3) 7 v4) 8 v4) 8 (Value.bool false)) 9 v5) 10 v6) 11 v7) 12 v8) 13 v9) 14 v9) 15 v9) 15 (Value.bool true)) 16 undef) 17 undef) 18 undef) 19 undef) 20 undef) 21 undef) 22 (Value.bool true)) 23 (Value.bool true)) 23 (Value.bool true)) 24 undef) 25 undef) 26 undef) 27 undef) 28 undef) 29 undef) 30 (Value.bool true)) h2 (contX pl77 prog J 43 h.length 77 ct77 [1,1,0,1] (codeOf f77) [] (RetQ prog [.tmp 3] h.length K))))
(aIdx 1 a0 (vint 1) fun v10 =>
 aLoad false 1 v10 h2 fun v11 =>
 aOff v1 0 fun v12 =>
 Good prog J 76 [v11,(Value.string { data := #[45] }),v12] h2 fun v13 h14 =>
 aUn .not v13 fun v15 =>
 cnd v15
(Hold (W prog J 43 h.length 77 (subC [1,1,0,1] (codeOf f77)) (RG.p (RG.p (RG.p (RG.p (RG.p (RG.p (RG.p (RG.p (RG.p (RG.p (RG.p (RG.p (RG.p (RG.p (RG.p (RG.p (RG.p (RG.p (RG.p (RG.p (RG.p (RG.p (RG.p (RG.p (RG.p (RG.p (RG.p (RG.p (RG.p (RG.p (RG.p (RG.mk (regs [a0,a1]) []) 3 (Value.bool false)) 4 v1) 5 a0) 6 v3) 7 v4) 8 v4) 8 (Value.bool false)) 9 v5) 10 v6) 11 v7) 12 v8) 13 v9) 14 v9) 15 v9) 15 (Value.bool false)) 16 a0) 17 v10) 18 v11) 19 v12) 20 v13) 21 v15) 22 v15) 23 v15) 23 (Value.bool true)) 24 undef) 25 undef) 26 undef) 27 undef) 28 undef) 29 undef) 30 (Value.bool true)) h14 (contX pl77 prog J 43 h.length 77 ct77 [1,1,0,1] (codeOf f77) [] (RetQ prog [.tmp 3] h.length K))))
(aIdx 1 a0 (vint 2) fun v16 =>
 aLoad false 1 v16 h14 fun v17 =>
 aOff v1 1 fun v18 =>
 Good prog J 76 [v17,(Value.string { data := #[64] }),v18] h14 fun v19 h20 =>
 aUn .not v19 fun v21 =>
 Hold (W prog J 43 h.length 77 (subC [1,1,0,1] (codeOf f77)) (RG.p (RG.p (RG.p (RG.p (RG.p (RG.p (RG.p (RG.p (RG.p (RG.p (RG.p (RG.p (RG.p (RG.p (RG.p (RG.p (RG.p (RG.p (RG.p (RG.p (RG.p (RG.p (RG.p (RG.p (RG.p (RG.p (RG.p (RG.p (RG.p (RG.p (RG.p (RG.mk (regs [a0,a1]) []) 3 (Value.bool false)) 4 v1) 5 a0) 6 v3) 7 v4) 8 v4) 8 (Value.bool false)) 9 v5) 10 v6) 11 v7) 12 v8) 13 v9) 14 v9) 15 v9) 15 (Value.bool false)) 16 a0) 17 v10) 18 v11) 19 v12) 20 v13) 21 v15) 22 v15) 23 v15) 23 (Value.bool false)) 24 a0) 25 v16) 26 v17) 27 v18) 28 v19) 29 v21) 30 v21) h20 (contX pl77 prog J 43 h.length 77 ct77 [1,1,0,1] (codeOf f77) [] (RetQ prog [.tmp 3] h.length K))))))) := top_eq pok77 ct77 (by kernel_rfl)
theorem g77 (hJ : Closed prog main J) {a0 a1 : Value} (hs : heapOk h → W prog J 43 h.length 77 (codeOf f77) (RG.mk (regs [a0,a1]) []) h (RetQ prog [.tmp 3] h.length K)) : Good prog J 77 [a0,a1] h K :=
 good_of_W hJ mixed at77 body77 (by kernel_rfl) (Nat.le_of_ble_eq_true rfl) hs
theorem s77_1 {f : RG} : W prog J 43 n0 77 (subC [1,1,0,1] (codeOf f77)) f h (contX pl77 prog J 43 n0 77 ct77 [1,1,0,1] (codeOf f77) [] (RetQ prog [.tmp 3] n0 K)) =
(cnd (f.r 30)
(retL n0 K f.ds [(Value.bool false)] h)
((∃ B,aLoad false 1 (f.r 1) h fun v1 =>
 RdOk (some B) (ptrBlk (f.r 1)) ∧ (aLoad false 1 (f.r 1) h fun v2 =>
 RdOk (some B) (ptrBlk (f.r 1)) ∧ (aNil v2 fun v3 =>
 aOff v3 0 fun v4 =>
 aOff v4 3 fun v5 =>
 aLoad false 1 v5 h fun v6 =>
 RdOk (some B) (ptrBlk v5) ∧ (aLoad true 2 (f.r 4) h fun v7 =>
 RdOk (some B) (ptrBlk (f.r 4)) ∧ ((((1 * 2 : Nat) ≤ 16777216 ∧ (1 : Nat) ≤ 16777216 ∧ List.length [(vint 0),(vint 0)] = 2) ∧ aFill (zrep [(vint 0),(vint 0)] 1) [(0,2,v7)] fun c8 =>
 aNewS 1 c8 h fun v9 h10 =>
 SameB (some B) h h10 ∧ (((List.length [(vint 0),(vint 0)] = 2 ∧ 0 < (2 : Nat) ∧ 0 < (16 : Nat) ∧ (16 : Nat) ≤ 1024) ∧ aApp 2 v6 v9 h10 fun v11 h12 =>
 SameB (some B) h h12 ∧ (aNil v1 fun v13 =>
 aOff v13 0 fun v14 =>
 aOff v14 3 fun v15 =>
 aStore 1 v15 v11 h12 fun h16 =>
 retL n0 K f.ds [(Value.bool true)] h16))))))))))) := sub_eq pok77 ct77 (by kernel_rfl)
theorem at78 : prog.funcs[78]? = some f78 := by kernel_rfl
theorem body78 : f78.body = some (codeOf f78) := by kernel_rfl
def pl78 : Plans := []
def ct78 : Cuts := .go
theorem pok78 : plansOk prog pl78 (codeOf f78) = true := by kernel_rfl
theorem e78 {a0 a1 : Value} : W prog J 16 h.length 78 (codeOf f78) (RG.mk (regs [a0,a1]) []) h (RetQ prog [.tmp 3] h.length K) =
(aLoad false 1 a1 h fun v1 =>
 aNil v1 fun v2 =>
 aOff v2 5 fun v3 =>
 aStore 1 v3 (Value.bool true) h fun h4 =>
 aLenS a0 fun v5 =>
 aBin prog .eql 3 v5 (vint 1) fun v6 =>
 cnd v6
(aLoad false 1 a1 h4 fun v7 =>
 aNil v7 fun v8 =>
 aOff v8 4 fun v9 =>
 aLoad false 1 v9 h4 fun v10 =>
 retL h.length K [] [v10] h4)
(retL h.length K [] [(Value.bool false)] h4)) := top_eq pok78 ct78 (by kernel_rfl)
theorem g78 (hJ : Closed prog main J) {a0 a1 : Value} (hs : heapOk h → W prog J 16 h.length 78 (codeOf f78) (RG.mk (regs [a0,a1]) []) h (RetQ prog [.tmp 3] h.length K)) : Good prog J 78 [a0,a1] h K :=
 good_of_W hJ mixed at78 body78 (by kernel_rfl) (Nat.le_of_ble_eq_true rfl) hs
end
end Go.Proofs.YtcmgjbflljmphaaGreatDoor
namespace Go.Proofs.YtcmgjbflljmphaaGreatDoor
open Go.Conc Go.Proofs.Tryz
set_option maxRecDepth 100000
def pgC (w : Wel) (fv : Value) (sm en : Bool) : List Value := [vint w.now,vint w.holds,vint w.fill,fv,.bool sm,.bool en]
def kindW (w : List (List UInt8)) (sm : Bool) : Option Wel :=
 match w with
 | [_,a,b] => if sm then none else welR a b
 | _ => none
def kindF (w : List (List UInt8)) (sm : Bool) : Option Dro :=
 match w with
 | [_,a,b] => if sm then droR a b else none
 | _ => none
theorem kindW_len {w : List (List UInt8)} {sm : Bool} (h : w.length ≠ 3 ∨ sm = true) : kindW w sm = none := by
 unfold kindW
 split
 ·rcases h with h | h
  ·exact absurd rfl h
  ·rw [h]
   rfl
 ·rfl
theorem kindF_len {w : List (List UInt8)} {sm : Bool} (h : w.length ≠ 3 ∨ sm = false) : kindF w sm = none := by
 unfold kindF
 split
 ·rcases h with h | h
  ·exact absurd rfl h
  ·rw [h]
   rfl
 ·rfl
theorem list3T {w : List (List UInt8)} (h : w.length = 3) : ∃ x a b,w = [x,a,b] := by
 match w,h with
 | [x,a,b],_ => exact ⟨x,a,b,rfl⟩
theorem unsT_no47 {v : List UInt8} {n : Int} (h : unsT v = some n) : ∀ b ∈ v,b ≠ 47 := by
 obtain ⟨rfl,hn⟩ := unsT_back h
 exact fun b hb => (num_no hn b hb).2.2
theorem welR_cut {a b u v : List UInt8} (h : a = u ++ 47 :: v) (hno : ∀ x ∈ u,x ≠ 47) : welR a b = (unsT u).bind fun n => (unsT v).bind fun h => (sgnT 43 b).map fun f => ⟨n,h,f⟩ := by
 have hp : partsB 47 a = u :: partsB 47 v := by rw [h,partsB_cut _ _ hno]
 unfold welR
 rw [hp]
 by_cases hv : ∀ x ∈ v,x ≠ 47
 ·rw [partsB_one v hv]
 ·have hn : unsT v = none := by
   cases hu : unsT v with
   | none => rfl
   | some n => exact absurd (unsT_no47 hu) hv
  rw [hn]
  split
  ·rename_i x y hxy
   simp only [List.cons.injEq] at hxy
   obtain ⟨rfl,hxy⟩ := hxy
   have := join_parts v hxy
   simp only [joinR,List.flatMap_nil,List.append_nil] at this
   subst this
   rw [hn]
  ·cases unsT u <;> rfl
theorem welR_none {a b : List UInt8} (hno : ∀ x ∈ a,x ≠ 47) : welR a b = none := by
 unfold welR
 rw [partsB_one a hno]
section
variable {main : Bool} {J : JT} {H : List AObj} {K : Value → List AObj → Prop} {KV : Value → Prop} {F : RG} {n0 b2 pg bw : Nat} {x : Wel} {fv : Value} {sm en : Bool} {w : List (List UInt8)}
theorem idxW {n c j : Nat} (hj : j < n) (hk : KV (ptr bw j)) : aIdx 1 (.slice (some ⟨bw,0,none⟩) n c) (vint (j : Nat)) KV := by
 refine idxI (b := bw) (o := 0) ⟨by omega,by omega⟩ ?_
 rw [Int.toNat_natCast,Nat.mul_one,Nat.zero_add]
 exact hk
theorem ldW {j : Nat} {u : List UInt8} (cw : H[bw]? = some (.cells (w.map strV) true 0)) (hu : w[j]? = some u) (hk : KV (strV u)) : aLoad false 1 (ptr bw j) H KV :=
 ldI (v := strV u) cw (by rw [List.getElem?_map,hu]; rfl) rfl hk
theorem sb2T {X : List Nat} {p q : Nat} {H H2 : List AObj} (S : SameX X H H2) (hp : p < H.length) (hX : p ∉ X) (hq : q < H.length) (hY : q ∉ X) : SameB (some [p,q]) H H2 := fun b hb => by
 simp at hb
 rcases hb with rfl | rfl
 ·exact S.2 _ hp hX
 ·exact S.2 _ hq hY
theorem kd1_1 (hJ : Closed prog main J) {u0 a b : List UInt8} (ds : F.ds = []) (r0 : F.r 0 = .slice (some ⟨bw,0,none⟩) w.length w.length) (r1 : F.r 1 = ptr b2 0) (r15 : F.r 15 = .bool false) (hw3 : w = [u0,a,b]) (hl : ∀ u ∈ w,u.length ≤ 2000) (cw : H[bw]? = some (.cells (w.map strV) true 0))
  (c2 : H[b2]? = some (.cells [ptr pg 0] true 0)) (cp : H[pg]? = some (.cells (pgC x fv sm en) true 0)) (hne : b2 ≠ pg) (hnw : bw ≠ pg)
  (k1 : ∀ y H',welR a b = some y → SameX [pg] H H' → H'[pg]? = some (.cells (pgC y fv true en) true 0) → K (.bool true) H') (k2 : ∀ H',welR a b = none → SameX [pg] H H' → K (.bool false) H') :
  W prog J 57 n0 73 (subC [1,0,1] (codeOf f73)) F H (contX pl73 prog J 57 n0 73 ct73 [1,0,1] (codeOf f73) [] (RetQ prog [.tmp 3] n0 K)) := by
 have ha : a.length ≤ 2000 := hl a (by rw [hw3]; simp)
 have h1 : w[1]? = some a := by rw [hw3]; rfl
 have h2 : w[2]? = some b := by rw [hw3]; rfl
 have hn3 : w.length = 3 := by rw [hw3]; rfl
 have lb := lt_of_get c2
 have lw := lt_of_get cw
 rw [s73_1]
 simp only [ds,r0,r1,r15]
 refine cnd_false.2 (idxW (j := 1) (by omega) (ldW cw h1 ?_))
 -- the sign of what is met
 have met : ∀ {KL : List AObj → Prop},(∀ H1,SameX [pg] H H1 → H1[pg]? = some (.cells (pgC x fv true en) true 0) → KL H1) → aLoad false 1 (ptr b2 0) H fun v8 => aNil v8 fun v9 => aOff v9 4 fun v10 => aStore 1 v10 (.bool true) H KL := fun {KL} hk =>
  ldI (v := ptr pg 0) c2 rfl rfl (nilI (offI (qSt cp (Nat.le_of_ble_eq_true rfl) rfl rfl fun H1 S1 c1 _ => hk H1 S1 c1)))
 refine good74b (c := 47) hJ ha (fun u v hcut hno => ext30 (ext31 (ext32 ?_))) fun hno => ext30 (ext31 (ext32 ?_))
 ·rw [welR_cut hcut hno] at k1 k2
  refine met fun H1 S1 c1 => ⟨[b2,bw],cnd_true.2 ?_⟩
  have d2 := S1.get c2 (by simpa using hne)
  have dw := S1.get cw (by simpa using hnw)
  have hH1 := S1.1
  have rb : RdOk (some [b2,bw]) (ptrBlk (ptr b2 0)) := by simp [RdOk,ptrBlk]
  have rw' : ∀ {o : Nat},RdOk (some [b2,bw]) (ptrBlk (ptr bw o)) := by simp [RdOk,ptrBlk]
  have sb : ∀ {H' : List AObj},SameX [pg] H1 H' → SameB (some [b2,bw]) H1 H' := fun S => sb2T S (by omega) (by simpa using hne) (by omega) (by simpa using hnw)
  refine ldI (v := ptr pg 0) d2 rfl rfl ⟨rb,nilI (offI (offI (offI ?_)))⟩
  refine good75 hJ (o := 0) c1 (Nat.le_of_ble_eq_true rfl) (fun n H2 hn S2 e2 => ⟨sb S2,cnd_true.2 ?_⟩) fun hn => ⟨sb SameX.refl,cnd_false.2 ?_⟩
  ·rw [hn] at k1 k2
   have f2 := S2.get d2 (by simpa using hne)
   refine ldI (v := ptr pg 0) f2 rfl rfl ⟨rb,nilI (offI (offI (offI ?_)))⟩
   refine good75 hJ (o := 1) e2 (Nat.le_of_ble_eq_true rfl) (fun m H3 hm S3 e3 => ⟨sb (S2.thru S3 (by simp)),cnd_true.2 ?_⟩) fun hm => ⟨sb S2,cnd_false.2 ?_⟩
   ·rw [hm] at k1 k2
    have S23 : SameX [pg] H1 H3 := S2.thru S3 (by simp)
    have f3 := S23.get d2 (by simpa using hne)
    have g3 := S23.get dw (by simpa using hnw)
    refine idxW (j := 2) (by omega) (ldW g3 h2 ⟨rw',ldI (v := ptr pg 0) f3 rfl rfl ⟨rb,nilI (offI (offI (offI ?_)))⟩⟩)
    refine good76 hJ (o := 2) e3 (Nat.le_of_ble_eq_true rfl) (fun f H4 hf S4 e4 => ⟨sb (S23.thru S4 (by simp)),retL_same (by simp [unk]) ?_⟩) fun hf => ⟨sb S23,retL_same (by simp [unk]) ?_⟩
    ·rw [hf] at k1
     exact k1 ⟨n,m,f⟩ H4 rfl ((S1.thru S23 (by simp)).thru S4 (by simp)) e4
    ·rw [hf] at k2
     exact k2 H3 rfl (S1.thru S23 (by simp))
   ·rw [hm] at k2
    exact retL_same (by simp [unk]) (k2 H2 rfl (S1.thru S2 (by simp)))
  ·rw [hn] at k2
   exact retL_same (by simp [unk]) (k2 H1 rfl S1)
 ·rw [welR_none hno] at k2
  exact met fun H1 S1 c1 => ⟨[],cnd_false.2 (retL_same (by simp [unk]) (k2 H1 rfl S1))⟩
theorem good73 (hJ : Closed prog main J) (cw : H[bw]? = some (.cells (w.map strV) true 0)) (hl : ∀ u ∈ w,u.length ≤ 2000)
  (c2 : H[b2]? = some (.cells [ptr pg 0] true 0)) (cp : H[pg]? = some (.cells (pgC x fv sm en) true 0)) (hne : b2 ≠ pg) (hnw : bw ≠ pg)
  (k1 : ∀ y H',kindW w sm = some y → SameX [pg] H H' → H'[pg]? = some (.cells (pgC y fv true en) true 0) → K (.bool true) H') (k2 : ∀ H',kindW w sm = none → SameX [pg] H H' → K (.bool false) H') :
  Good prog J 73 [.slice (some ⟨bw,0,none⟩) w.length w.length,ptr b2 0] H K := by
 refine g73 hJ fun ok => ?_
 rw [e73]
 have bad : ∀ {F : RG},F.ds = [] → F.r 15 = .bool true → kindW w sm = none → W prog J 57 H.length 73 (subC [1,0,1] (codeOf f73)) F H (contX pl73 prog J 57 H.length 73 ct73 [1,0,1] (codeOf f73) [] (RetQ prog [.tmp 3] H.length K)) := fun {F} ds r15 hk => by
  rw [s73_1]
  simp only [ds,r15]
  exact cnd_true.2 (retL_same (by simp [unk]) (k2 H hk SameX.refl))
 refine lenSl (neqI (cndI (fun h => hold.2 ?_) fun h => ?_))
 ·exact bad rfl rfl (kindW_len (.inl (by omega)))
 ·have h3 : w.length = 3 := by omega
  refine ldI (v := ptr pg 0) c2 rfl rfl (nilI (offI (ldI (v := .bool sm) cp rfl rfl (hold.2 ?_))))
  cases sm with
  | true => exact bad rfl rfl (kindW_len (.inr rfl))
  | false =>
   obtain ⟨u0,a,b,hw⟩ := list3T h3
   have e : kindW w false = welR a b := by rw [hw]; rfl
   rw [e] at k1 k2
   exact kd1_1 hJ rfl rfl rfl rfl hw hl cw c2 cp hne hnw k1 k2
theorem sb3T {X : List Nat} {p q r : Nat} {H H2 : List AObj} (S : SameX X H H2) (hp : p < H.length) (hX : p ∉ X) (hq : q < H.length) (hY : q ∉ X) (hr : r < H.length) (hZ : r ∉ X) : SameB (some [p,q,r]) H H2 := fun b hb => by
 simp at hb
 rcases hb with rfl | rfl | rfl
 ·exact S.2 _ hp hX
 ·exact S.2 _ hq hY
 ·exact S.2 _ hr hZ
theorem good77 (hJ : Closed prog main J) {t : List Dro} {o : Option Nat} (cw : H[bw]? = some (.cells (w.map strV) true 0)) (hl : ∀ u ∈ w,u.length ≤ 2000)
  (c2 : H[b2]? = some (.cells [ptr pg 0] true 0)) (cp : H[pg]? = some (.cells (pgC x fv sm en) true 0)) (hne : b2 ≠ pg)
  (O : OwnX H 2 (t.flatMap Dro.cells) t.length fv o) (hO : ∀ k,o = some k → k ≠ pg ∧ k ≠ b2) (ht : t.length < 1000)
  (k1 : ∀ d fv' p H',kindF w sm = some d → SameX (pg :: o.toList) H H' → H'[pg]? = some (.cells (pgC x fv' sm en) true 0) → OwnX H' 2 ((t ++ [d]).flatMap Dro.cells) (t ++ [d]).length fv' (some p) → H.length ≤ p → K (.bool true) H') (k2 : ∀ H',kindF w sm = none → SameX [] H H' → K (.bool false) H') :
  Good prog J 77 [.slice (some ⟨bw,0,none⟩) w.length w.length,ptr b2 0] H K := by
 refine g77 hJ fun ok => ?_
 rw [e77]
 have l2 := lt_of_get c2
 have lp := lt_of_get cp
 refine qAl fun H1 p4 e4 S1 c4 l4 => ?_
 have bad : ∀ {F : RG} {H' : List AObj},F.ds = [] → F.r 30 = .bool true → kindF w sm = none → SameX [] H H' → W prog J 43 H.length 77 (subC [1,1,0,1] (codeOf f77)) F H' (contX pl77 prog J 43 H.length 77 ct77 [1,1,0,1] (codeOf f77) [] (RetQ prog [.tmp 3] H.length K)) := fun {F H'} ds r30 hk S => by
  rw [s77_1]
  simp only [ds,r30]
  exact cnd_true.2 (retL_same (by simp [unk]) (k2 H' hk S))
 have d2 := S1.get c2 (by simp)
 have dp := S1.get cp (by simp)
 have dw := S1.get cw (by simp)
 refine lenSl (neqI (cndI (fun h => hold.2 ?_) fun h => ?_))
 ·exact bad rfl rfl (kindF_len (.inl (by omega))) S1
 ·have h3 : w.length = 3 := by omega
  obtain ⟨u0,a,b,hw⟩ := list3T h3
  have h1 : w[1]? = some a := by rw [hw]; rfl
  have h2 : w[2]? = some b := by rw [hw]; rfl
  refine ldI (v := ptr pg 0) d2 rfl rfl (nilI (offI (ldI (v := .bool sm) dp rfl rfl (notI ?_))))
  cases sm with
  | false => exact cnd_true.2 (hold.2 (bad rfl rfl (kindF_len (.inr rfl)) S1))
  | true =>
   have e : kindF w true = droR a b := by rw [hw]; rfl
   have e' : droR a b = (sgnT 45 a).bind fun d => (sgnT 64 b).map fun e => ⟨d,e⟩ := rfl
   rw [e,e'] at k1 k2
   rw [e,e'] at bad
   refine cnd_false.2 (idxW (j := 1) (by omega) (ldW dw h1 (offI ?_)))
   refine good76 hJ (o := 0) c4 (by decide) (fun dr H2 hd S2 c5 => notI (cnd_false.2 ?_)) fun hd => notI (cnd_true.2 (hold.2 ?_))
   ·rw [hd] at k1 k2 bad
    have S02 : SameX [] H H2 := S1.thru S2 (by simp; omega)
    have dw2 := S2.get dw (by have := lt_of_get cw; simp; omega)
    refine idxW (j := 2) (by omega) (ldW dw2 h2 (offI ?_))
    refine good76 hJ (o := 1) c5 (Nat.le_of_ble_eq_true rfl) (fun ev H3 he S3 c6 => notI (hold.2 ?_)) fun he => notI (hold.2 ?_)
    ·rw [he] at k1
     have S03 : SameX [] H H3 := S02.thru S3 (by simp; omega)
     have cf : H3[p4]? = some (.cells (⟨dr,ev⟩ : Dro).cells true 0) := c6
     suffices w1 : ∀ {F : RG},F.ds = [] → F.r 1 = ptr b2 0 → F.r 4 = ptr p4 0 → F.r 30 = .bool false → W prog J 43 H.length 77 (subC [1,1,0,1] (codeOf f77)) F H3 (contX pl77 prog J 43 H.length 77 ct77 [1,1,0,1] (codeOf f77) [] (RetQ prog [.tmp 3] H.length K)) from w1 rfl rfl rfl rfl
     intro F ds r1 r4 r30
     rw [s77_1]
     simp only [ds,r1,r4,r30]
     have f2 := S03.get c2 (by simp)
     have fp := S03.get cp (by simp)
     have hH3 := S03.1
     have r2 : RdOk (some [b2,pg,p4]) (ptrBlk (ptr b2 0)) := by simp [RdOk,ptrBlk]
     have rp : ∀ {o : Nat},RdOk (some [b2,pg,p4]) (ptrBlk (ptr pg o)) := by simp [RdOk,ptrBlk]
     have r4 : ∀ {o : Nat},RdOk (some [b2,pg,p4]) (ptrBlk (ptr p4 o)) := by simp [RdOk,ptrBlk]
     have lp4 := lt_of_get cf
     have O3 := ownX_keep O S03 (by simp)
     have fk : kn1 fv = true := (ownX_val O).2.2
     refine cnd_false.2 ⟨[b2,pg,p4],ldI (v := ptr pg 0) f2 rfl rfl ⟨r2,ldI (v := ptr pg 0) f2 rfl rfl ⟨r2,nilI (offI (offI (ldI (v := fv) fp rfl fk ⟨rp,?_⟩)))⟩⟩⟩
     refine load_part (c := (⟨dr,ev⟩ : Dro).cells) cf (by simp [Dro.cells]) rfl rfl ⟨r4,⟨⟨by decide,by decide,rfl⟩,?_⟩⟩
     refine fillO (l := (⟨dr,ev⟩ : Dro).cells) rfl rfl rfl (Nat.le_of_ble_eq_true rfl) (fillI (qNew fun H5 p9 e9 S5 c9 l9 => ⟨sb3T S5 (by omega) (by simp) (by omega) (by simp) (by omega) (by simp),⟨⟨rfl,by decide,by decide,by decide⟩,?_⟩⟩))
     have c9 : H5[p9]? = some (.cells (⟨dr,ev⟩ : Dro).cells true 0) := c9
     have hH5 := S5.1
     have O5 := ownX_keep O3 S5 (by simp)
     have hol : ∀ k,o = some k → k ≠ pg ∧ k ≠ b2 ∧ k < H.length := fun k hk => ⟨(hO k hk).1,(hO k hk).2,ownX_lt O k hk⟩
     have hmem : ∀ {y : Nat},y ∈ o.toList → y ≠ pg ∧ y ≠ b2 ∧ y < H.length := fun {y} hy => hol y (by simpa using hy)
     refine ownX_more O5 (by decide) (by omega) (ownX_sli (ownX_new (s := 2) (n := 1) c9 rfl rfl)) fun fv' H6 p6 e6 O6 S6 => ⟨sb3T (S5.weak0.thru S6 (fun y hy => .inl hy)) (by omega) (fun hm => (hmem hm).2.1 rfl) (by omega) (fun hm => (hmem hm).1 rfl) (by omega) (fun hm => by have := (hmem hm).2.2; omega),?_⟩
     have hp6 : p6 ≠ pg := by omega
     have g6 := S6.get (S5.get fp (by simp)) (fun hm => (hmem hm).1 rfl)
     have v6 := ownX_val O6
     refine nilI (offI (offI (qSt g6 (Nat.le_of_ble_eq_true rfl) v6.1 v6.2.1 fun H7 S7 c7 _ => retL_same (by simp [unk]) ?_)))
     refine k1 ⟨dr,ev⟩ fv' p6 H7 rfl ?_ c7 ?_ (by have := S5.1; omega)
     ·have S36 : SameX o.toList H H6 := (S03.trans S5).weak0.thru S6 (fun y hy => .inl hy)
      exact (S36.weak (Y := pg :: o.toList) (fun y hy => by simp [hy])).thru S7 (fun y hy => .inl (by simpa using Or.inl (by simpa using hy)))
     ·have O7 := ownX_keep O6 S7 (fun i hi => by cases hi; simpa using hp6)
      simpa using O7
    ·rw [he] at bad
     exact bad rfl rfl rfl S02
   ·rw [hd] at bad
    exact bad rfl rfl rfl S1
theorem good78 (hJ : Closed prog main J) (c2 : H[b2]? = some (.cells [ptr pg 0] true 0)) (cp : H[pg]? = some (.cells (pgC x fv sm en) true 0)) (hne : b2 ≠ pg)
  (k : ∀ H',SameX [pg] H H' → H'[pg]? = some (.cells (pgC x fv sm true) true 0) → K (.bool (decide (w.length = 1) && sm)) H') :
  Good prog J 78 [.slice (some ⟨bw,0,none⟩) w.length w.length,ptr b2 0] H K := by
 refine g78 hJ fun ok => ?_
 rw [e78]
 refine ldI (v := ptr pg 0) c2 rfl rfl (nilI (offI (qSt cp (Nat.le_of_ble_eq_true rfl) rfl rfl fun H1 S1 c1 _ => lenSl (eqlI (cndI (fun h => ?_) fun h => ?_)))))
 ·have h1 : w.length = 1 := by omega
  have k := k H1 S1 c1
  rw [decide_eq_true h1,Bool.true_and] at k
  exact ldI (v := ptr pg 0) (S1.get c2 (by simpa using hne)) rfl rfl (nilI (offI (ldI (v := .bool sm) c1 rfl rfl (retL_same (by simp [unk]) k))))
 ·have h1 : ¬ w.length = 1 := by omega
  have k := k H1 S1 c1
  rw [decide_eq_false h1,Bool.false_and] at k
  exact retL_same (by simp [unk]) k
end
end Go.Proofs.YtcmgjbflljmphaaGreatDoor
namespace Go.Proofs.YtcmgjbflljmphaaGreatDoor
open Go.Conc
section
variable {P : Program} {main : Bool} {J : JT} {N n0 : Nat} {ops : Array Oper} {f : RG} {h : List AObj} {fn : FuncId} {Q : QT} {i : Nat} {rest : List Nat} {o : Oper}
theorem SemOps_panic (hJ : Closed P main J) (ho : ops[i]? = some o) {x : Operand} (hx : o.op = .panic x) (hg : gd ops o f.r = some true) {t : TypeId} {v : Value} (hv : ev f.r x = .iface t v) (hq : Q (.panic [{ v := .iface t v,recovered := false }]) f h) :
  SemOps J N n0 fn ops (i :: rest) f h Q := by
 intro b a k cs L ρ FC w ft h1 h2 h3 h4 h5 h6 hc
 have hw := gd_wanted h4 hg
 have hval := ((ev_rel h4.regs x).val (by rw [hv]; simp [unk])).2
 rw [hv] at hval
 have hnd : ∀ c,o.op ≠ .defer c := fun c => by rw [hx]; simp
 have hk' : (b.kind == CallKind.early) = false := by simpa using h2
 have hA := hc _ _ _ _ _ _ _ hq h4 h5 (Env.upto_refl _ _) h6
 have hA : ∀ todo,J (G { (b.at a todo) with mode := .panicking [{ v := ren ρ (.iface t v),recovered := false }] } cs) w ft := hA
 refine hJ.ctrl rfl rfl (g' := G { (b.at a (.inRegion ops (i :: rest) :: k)) with mode := .panicking [{ v := ren ρ (.iface t v),recovered := false }] } cs) (fun w => ?_) (hA _)
 rw [stepG_op ho hw hnd]
 have hr : (execOp a.eval o).runT P w #[] = (.halt (.panic (ren ρ (.iface t v))) w,#[]) := by
  have he : a.eval x = .iface t (ren ρ v) := by rw [hval]; simp only [ren]
  have h0 : (ren ρ (.iface t v)) = .iface t (ren ρ v) := by simp only [ren]
  rw [h0]
  unfold execOp
  rw [hx]
  simp only [he]
  rfl
 simp only [stepG.apply,hr,if_true]
 simp [G,FB.at,hk',GStep.after,Frame.raise,seen]
def RetQP (P : Program) (rs : List ResultVar) (n0 : Nat) (K KP : Value → List AObj → Prop) : QT := fun e f h =>
 match e with
 | .panic chain => f.ds = [] ∧ ∃ v,chain = [{ v,recovered := false }] ∧ v ≠ unk ∧ VOk h.length v ∧ KP v h
 | e => RetQ P rs n0 K e f h
def GoodP (P : Program) (J : JT) (g : FuncId) (args : List Value) (h : List AObj) (K KP : Value → List AObj → Prop) : Prop :=
 okCall P g args.length h ∧ ∀ (ρ : Env) (FC : Frm) (w : World) (ft : Foot) (cs : List Frame) (c : Frame) (cargs : List Value) (fr : Frame),HRel ρ h FC w ft →
  (∀ i : Nat,VRel h.length ρ (args.getD i unk) (cargs.getD i undef)) → cargs.length = args.length → Entry P g ρ w cargs fr →
  (∀ v h' ρ' w' ft' cv,K v h' → HRel ρ' h' FC w' ft' → Env.upto h.length ρ ρ' → h.length ≤ h'.length → VRel h'.length ρ' v cv → J (G (c.finish cv) cs) w' ft') →
  (∀ v h' ρ' w' ft',KP v h' → HRel ρ' h' FC w' ft' → Env.upto h.length ρ ρ' → h.length ≤ h'.length → v ≠ unk → VOk h'.length v → J (G (c.raise [{ v := ren ρ' v,recovered := false }]) cs) w' ft') →
  J (G fr (c :: cs)) w ft
end
section
variable {P : Program} {main : Bool} {J : JT} {g : FuncId} {args : List Value} {h : List AObj} {K KP : Value → List AObj → Prop}
theorem good_of_semP (hJ : Closed P main J) {fn : Func} (hf : P.funcs[g]? = some fn) {c : Code} (hb : fn.body = some c) (hn : (fn.name == "runtime.NumGoroutine") = false) (ha : args.length ≤ fn.ntmps)
  (hs : heapOk h → Sem J fn.ntmps h.length g c ⟨regs args,[]⟩ h (RetQP P fn.results.toList h.length K KP)) : GoodP P J g args h K KP := by
 have hlt : g < P.funcs.size := (Array.getElem?_eq_some_iff.1 hf).1
 refine ⟨.inl ⟨hlt,by simp [callable,hf,hb,hn]⟩,fun ρ FC w ft cs c' cargs fr H hr hl hent hc hp => ?_⟩
 obtain rfl : fr = Frame.enter P g ⟨cargs⟩ .normal := by
  rcases hent with ⟨_,e⟩ | ⟨hge,_⟩
  ·exact e
  ·exact absurd hlt (Nat.not_lt.2 hge)
 have he : Frame.enter P g ⟨cargs⟩ .normal = FB.at ⟨g,.normal,none,[]⟩ ⟨⟨cargs⟩ ++ Array.replicate (fn.ntmps - cargs.length) undef,[]⟩ [.code c] := by
  simp [Frame.enter,FB.at,hf,hb]
 rw [he]
 have A : ActRel h.length ρ fn.ntmps ⟨regs args,[]⟩ ⟨⟨cargs⟩ ++ Array.replicate (fn.ntmps - cargs.length) undef,[]⟩ := by
  refine ⟨fun t => ?_,by simp; omega,rfl,by simp⟩
  have := hr t
  have ht : ((⟨cargs⟩ : Array Value) ++ Array.replicate (fn.ntmps - cargs.length) undef).getD t undef = cargs.getD t undef := by
   rw [Array.getD_eq_getD_getElem?,List.getD_eq_getElem?_getD]
   by_cases hx : t < cargs.length
   ·rw [Array.getElem?_append_left (by simpa using hx)]
    simp
   ·rw [Array.getElem?_append_right (by simp; omega),List.getElem?_eq_none (by omega)]
    simp only [Array.getElem?_replicate]
    split <;> rfl
  rw [ht]
  exact this
 have last : ∀ f' h' ρ' w' ft' a' todo,RetQ P fn.results.toList h.length K .ret f' h' → ActRel h'.length ρ' fn.ntmps f' a' → HRel ρ' h' FC w' ft' → Env.upto h.length ρ ρ' → h.length ≤ h'.length →
   J (G { (FB.at ⟨g,.normal,none,[]⟩ a' todo) with mode := .returning } (c' :: cs)) w' ft' := by
  intro f' h' ρ' w' ft' a' todo q A' H' hu hl
  exact leave_run (b := ⟨g,.normal,none,[]⟩) (f := f') (n0 := h.length) (ρ := ρ') hJ rfl hf (fun v h2 ρ2 w2 ft2 cv k H2 u2 l2 v2 => hc v h2 ρ2 w2 ft2 cv k H2 (Env.upto_trans hu u2) l2 v2) f'.ds h' w' ft' a' _ rfl rfl rfl rfl ((List.append_nil _).trans A'.defers) A'.regs H' hl q
 refine hs H.ok ⟨g,.normal,none,[]⟩ _ [] (c' :: cs) (fun jump a w ft => jump = some .ret ∧ ∀ todo,J (G { (FB.at ⟨g,.normal,none,[]⟩ a todo) with mode := .returning } (c' :: cs)) w ft) ρ FC w ft rfl (by simp) ?_ A H (Nat.le_refl _) ?_
 ·rintro jump a w ft todo ⟨rfl,hj⟩ hh
  rcases hh with ⟨_,k,rfl⟩ | ⟨id,k,e,_⟩ | ⟨e,_⟩
  ·exact hJ.ctrl rfl rfl (fun w => by simp [G,stepG,stepG.exec,FB.at]) (hj (.code .ret :: k))
  ·cases e
  ·cases e
 ·intro e f' h' ρ' w' ft' a' q A' H' hu hl
  cases e with
  | normal => exact hJ.ctrl rfl rfl (fun w => by simp [G,stepG,stepG.exec,FB.at]) (last f' h' ρ' w' ft' a' [] q A' H' hu hl)
  | ret => exact ⟨rfl,fun todo => last f' h' ρ' w' ft' a' todo q A' H' hu hl⟩
  | exit id => exact q.elim
  | goto l => exact q.elim
  | panic chain =>
   obtain ⟨hds,v,rfl,hv,hvo,hk⟩ := q
   intro todo
   have hd : a'.defers = [] := by rw [A'.defers,hds]; rfl
   refine hJ.ctrl rfl rfl (g' := G (c'.raise [{ v := ren ρ' v,recovered := false }]) cs) (fun w => ?_) (hp v h' ρ' w' ft' hk H' hu hl hv hvo)
   have hf' : (FB.at ⟨g,.normal,none,[]⟩ a' todo).fn = g := rfl
   simp [G,stepG,FB.at,unwind,hd,Frame.catches,hf]
  | outgrown => exact q.elim
end
theorem good_of_WP {P : Program} {main : Bool} {J : JT} {g : FuncId} {args : List Value} {h : List AObj} {K KP : Value → List AObj → Prop} (hJ : Closed P main J) (hm : P.follows .mixedOrders = true) {fn : Func} (hf : P.funcs[g]? = some fn) {c : Code} (hb : fn.body = some c) (hn : (fn.name == "runtime.NumGoroutine") = false) (ha : args.length ≤ fn.ntmps)
  (hs : heapOk h → W P J fn.ntmps h.length g c ⟨regs args,[]⟩ h (RetQP P fn.results.toList h.length K KP)) : GoodP P J g args h K KP :=
 good_of_semP hJ hf hb hn ha fun ok => W_sound hJ hm c (hs ok)
section
variable {P : Program} {main : Bool} {J : JT} {N n0 : Nat} {ops : Array Oper} {f : RG} {h : List AObj} {fn : FuncId} {Q : QT} {i : Nat} {rest : List Nat} {o : Oper}
theorem SemOps_callP (hJ : Closed P main J) (ho : ops[i]? = some o) (hg : gd ops o f.r = some true) (hd : ∀ t,o.dst = some t → t < N) {x : Operand} {args : Array Operand} {ats : Array TypeId} (hop : o.op = .call { callee := .value x,args := args,argTypes := ats })
  {g : FuncId} {first cap : List Value} (hx : ev f.r x = .func (.func g) ⟨first⟩ ⟨cap⟩) (hlt : g < P.funcs.size) {K KP : Value → List AObj → Prop} (hC : GoodP P J g (first ++ args.toList.map (ev f.r) ++ cap) h K KP)
  (hs : ∀ v h',K v h' → SemOps J N n0 fn ops rest (f.putO o.dst v) h' Q) (hp : ∀ v h',KP v h' → v ≠ unk → VOk h'.length v → Q (.panic [{ v,recovered := false }]) f h') : SemOps J N n0 fn ops (i :: rest) f h Q := by
 intro b a k cs L ρ FC w ft h1 h2 h3 h4 h5 h6 hc
 rcases hC.1 with ⟨_,hcl⟩ | ⟨hge,_⟩
 ·refine step_enter hJ h2 ho hg h4 hop hx hcl fun cargs e1 e2 => ?_
  refine hC.2 ρ FC w ft cs _ cargs _ h5 e1 e2 (.inl ⟨hlt,rfl⟩) (fun v h' ρ' w' ft' cv hK H' hu hl hv => ?_) fun v h' ρ' w' ft' hK H' hu hl hv hvo => ?_
  ·have hf := FB.finish_at b a ops i rest k cv
   rw [ho] at hf
   rw [hf]
   exact hs v h' hK b _ k cs L ρ' FC w' ft' h1 h2 h3 (act_put (upto_act hu hl h4) hd hv) H' (Nat.le_trans h6 hl) fun e f2 h2' ρ2 w2 ft2 a2 q r1 r2 r3 r4 => hc e f2 h2' ρ2 w2 ft2 a2 q r1 r2 (Env.upto_trans (Env.upto_le hu h6) r3) r4
  ·have := hc _ _ _ _ _ _ _ (hp v h' hK hv hvo) (upto_act hu hl h4) H' (Env.upto_le hu h6) (Nat.le_trans h6 hl)
   exact this _
 ·exact absurd hlt (Nat.not_lt.2 hge)
end
end Go.Proofs.YtcmgjbflljmphaaGreatDoor
namespace Go.Proofs.YtcmgjbflljmphaaGreatDoor
open Go.Conc Go.Proofs.Tryz
set_option maxRecDepth 100000
set_option maxHeartbeats 4000000
set_option linter.unusedVariables false
section
variable {main : Bool} {J : JT} {n0 : Nat} {h : List AObj} {K KP : Value → List AObj → Prop}
theorem at57 : prog.funcs[57]? = some f57 := by kernel_rfl
theorem body57 : f57.body = some (codeOf f57) := by kernel_rfl
def pl57 : Plans := []
def ct57 : Cuts := .go
theorem pok57 : plansOk prog pl57 (codeOf f57) = true := by kernel_rfl
theorem e57 {a0 : Value} : W prog J 8 h.length 57 (codeOf f57) (RG.mk (regs [a0]) []) h (RetQ prog [.tmp 2] h.length K) =
(aBox a0 h fun v1 h2 =>
 aNewM h2 fun v3 h4 =>
 aMkF 73 [] [v1] fun v5 =>
((VOk h4.length v5 ∧ one v5 = true) ∧ aUpdX prog 110 v3 (Value.string { data := #[119,101,108,108] }) v5 h4 fun h6 =>
 aMkF 77 [] [v1] fun v7 =>
((VOk h6.length v7 ∧ one v7 = true) ∧ aUpdX prog 110 v3 (Value.string { data := #[102,108,111,99,107] }) v7 h6 fun h8 =>
 aMkF 78 [] [v1] fun v9 =>
((VOk h8.length v9 ∧ one v9 = true) ∧ aUpdX prog 110 v3 (Value.string { data := #[116,114,111,117,103,104] }) v9 h8 fun h10 =>
 retL h.length K [] [v3] h10)))) := top_eq pok57 ct57 (by kernel_rfl)
theorem g57 (hJ : Closed prog main J) {a0 : Value} (hs : heapOk h → W prog J 8 h.length 57 (codeOf f57) (RG.mk (regs [a0]) []) h (RetQ prog [.tmp 2] h.length K)) : Good prog J 57 [a0] h K :=
 good_of_W hJ mixed at57 body57 (by kernel_rfl) (Nat.le_of_ble_eq_true rfl) hs
theorem at32 : prog.funcs[32]? = some f32 := by kernel_rfl
theorem body32 : f32.body = some (codeOf f32) := by kernel_rfl
def pl32 : Plans := []
def ct32 : Cuts := .bin (.go) (.bin (.bin (.go) (.un (.un (.bin (.go) (.bin (.go) (.bin (.un (.bin (.go) (.bin (.go) (.bin (.go) (.bin (.go) (.cut (.go))))))) (.go))))))) (.bin (.go) (.cut (.go))))
theorem pok32 : plansOk prog pl32 (codeOf f32) = true := by kernel_rfl
theorem e32 {a0 a1 : Value} : W prog J 73 h.length 32 (codeOf f32) (RG.mk (regs [a0,a1]) []) h (RetQP prog [] h.length K KP) =
(Good prog J 56 [a1,(Value.string { data := #[10] })] h fun v1 h2 =>
 Good prog J 57 [a0] h2 fun v3 h4 =>
 aLenS v1 fun v5 =>
 aBin prog .sub 3 v5 (vint 1) fun v6 =>
 aSl2 1 v1 none (some v6) h4 fun v7 =>
 aLenS v7 fun v8 =>
 Sem J 73 h.length 32 (subC [1,0,1,0] (codeOf f32)) (RG.p (RG.p (RG.p (RG.p (RG.p (RG.p (RG.p (RG.p (RG.p (RG.p (RG.p (RG.p (RG.p (RG.mk (regs [a0,a1]) []) 11 a1) 12 v1) 13 a0) 14 v3) 4 v1) 5 v3) 15 v1) 16 v1) 17 v5) 18 v6) 19 v7) 20 v8) 21 (vint 0)) h4 (contX pl32 prog J 73 h.length 32 ct32 [1,0,1,0] (codeOf f32) [] (RetQP prog [] h.length K KP))) := top_eq pok32 ct32 (by kernel_rfl)
theorem g32 (hJ : Closed prog main J) {a0 a1 : Value} (hs : heapOk h → W prog J 73 h.length 32 (codeOf f32) (RG.mk (regs [a0,a1]) []) h (RetQP prog [] h.length K KP)) : GoodP prog J 32 [a0,a1] h K KP :=
 good_of_WP hJ mixed at32 body32 (by kernel_rfl) (Nat.le_of_ble_eq_true rfl) hs
theorem s32_1 {f : RG} {nx0 : RG → List AObj → Prop} : W prog J 73 n0 32 (subC [1,0,1,0,0] (codeOf f32)) f h (thenK nx0 (contX pl32 prog J 73 n0 32 ct32 [1,0,1,0] (codeOf f32) [] (RetQP prog [] n0 K KP))) =
(aBin prog .lss 3 (f.r 21) (f.r 20) fun v1 =>
 cnd v1
(aIdx 1 (f.r 19) (f.r 21) fun v2 =>
 aLoad false 1 v2 h fun v3 =>
 Good prog J 56 [v3,(Value.string { data := #[32] })] h fun v4 h5 =>
 aIdx 1 v4 (vint 0) fun v6 =>
 aLoad false 1 v6 h5 fun v7 =>
 aLook prog 110 true (f.r 5) v7 h5 fun v8 =>
 aExt v8 0 fun v9 =>
 aExt v8 1 fun v10 =>
 aNil (f.r 0) fun v11 =>
 aOff v11 5 fun v12 =>
 aLoad false 1 v12 h5 fun v13 =>
 cnd v13
(Hold (W prog J 73 n0 32 (subC yp2 (codeOf f32)) (RG.p (RG.p (RG.p (RG.p (RG.p (RG.p (RG.p (RG.p (RG.p (RG.p (RG.p (RG.p (RG.p (RG.p (RG.p (RG.p (RG.p (RG.p (RG.p (RG.p (RG.p (RG.p (RG.p (RG.p (RG.p (RG.p (RG.p (RG.p (RG.p (RG.p (RG.p (RG.p (RG.p (RG.p (RG.p f 22 v1) 23 (f.r 21)) 24 v2) 25 v3) 6 (f.r 21)) 7 v3) 26 v3) 27 v4) 8 v4) 29 (f.r 5)) 30 v4) 31 v6) 32 v7) 33 v8) 28 v8) 34 v9) 35 v10) 9 v9) 10 v10) 36 (f.r 0)) 37 v11) 38 v12) 39 v13) 40 v13) 40 (Value.bool true)) 41 undef) 42 undef) 43 (Value.bool true)) 44 (Value.bool true)) 44 (Value.bool true)) 45 undef) 46 undef) 47 undef) 48 undef) 49 (Value.bool true)) h5 (contX pl32 prog J 73 n0 32 ct32 yp2 (codeOf f32) [nx0] (RetQP prog [] n0 K KP))))
(aUn .not v10 fun v14 =>
 cnd v14
(Hold (W prog J 73 n0 32 (subC yp2 (codeOf f32)) (RG.p (RG.p (RG.p (RG.p (RG.p (RG.p (RG.p (RG.p (RG.p (RG.p (RG.p (RG.p (RG.p (RG.p (RG.p (RG.p (RG.p (RG.p (RG.p (RG.p (RG.p (RG.p (RG.p (RG.p (RG.p (RG.p (RG.p (RG.p (RG.p (RG.p (RG.p (RG.p (RG.p (RG.p (RG.p f 22 v1) 23 (f.r 21)) 24 v2) 25 v3) 6 (f.r 21)) 7 v3) 26 v3) 27 v4) 8 v4) 29 (f.r 5)) 30 v4) 31 v6) 32 v7) 33 v8) 28 v8) 34 v9) 35 v10) 9 v9) 10 v10) 36 (f.r 0)) 37 v11) 38 v12) 39 v13) 40 v13) 40 (Value.bool false)) 41 v10) 42 v14) 43 v14) 44 v14) 44 (Value.bool true)) 45 undef) 46 undef) 47 undef) 48 undef) 49 (Value.bool true)) h5 (contX pl32 prog J 73 n0 32 ct32 yp2 (codeOf f32) [nx0] (RetQP prog [] n0 K KP))))
(callV prog (Good prog J) v9 [v4] h5 fun v15 h16 =>
 aUn .not v15 fun v17 =>
 Hold (W prog J 73 n0 32 (subC yp2 (codeOf f32)) (RG.p (RG.p (RG.p (RG.p (RG.p (RG.p (RG.p (RG.p (RG.p (RG.p (RG.p (RG.p (RG.p (RG.p (RG.p (RG.p (RG.p (RG.p (RG.p (RG.p (RG.p (RG.p (RG.p (RG.p (RG.p (RG.p (RG.p (RG.p (RG.p (RG.p (RG.p (RG.p (RG.p (RG.p (RG.p f 22 v1) 23 (f.r 21)) 24 v2) 25 v3) 6 (f.r 21)) 7 v3) 26 v3) 27 v4) 8 v4) 29 (f.r 5)) 30 v4) 31 v6) 32 v7) 33 v8) 28 v8) 34 v9) 35 v10) 9 v9) 10 v10) 36 (f.r 0)) 37 v11) 38 v12) 39 v13) 40 v13) 40 (Value.bool false)) 41 v10) 42 v14) 43 v14) 44 v14) 44 (Value.bool false)) 45 v9) 46 v4) 47 v15) 48 v17) 49 v17) h16 (contX pl32 prog J 73 n0 32 ct32 yp2 (codeOf f32) [nx0] (RetQP prog [] n0 K KP))))))
(aNil (f.r 0) fun v18 =>
 aOff v18 5 fun v19 =>
 aLoad false 1 v19 h fun v20 =>
 aUn .not v20 fun v21 =>
 cnd v21
(Hold (W prog J 73 n0 32 (subC [1,1,1] (codeOf f32)) (RG.p (RG.p (RG.p (RG.p (RG.p (RG.p (RG.p (RG.p (RG.p (RG.p (RG.p (RG.p (RG.p (RG.p (RG.p (RG.p f 22 v1) 55 (f.r 0)) 56 v18) 57 v19) 58 v20) 59 v21) 60 v21) 60 (Value.bool true)) 61 undef) 62 undef) 63 undef) 64 undef) 65 undef) 66 undef) 67 undef) 68 (Value.bool true)) h (contX pl32 prog J 73 n0 32 ct32 [1,1,1] (codeOf f32) [] (RetQP prog [] n0 K KP))))
(aLenS (f.r 4) fun v22 =>
 aBin prog .sub 3 v22 (vint 1) fun v23 =>
 aIdx 1 (f.r 4) v23 fun v24 =>
 aLoad false 1 v24 h fun v25 =>
 aBin prog .neq 9 v25 (Value.string { data := #[] }) fun v26 =>
 Hold (W prog J 73 n0 32 (subC [1,1,1] (codeOf f32)) (RG.p (RG.p (RG.p (RG.p (RG.p (RG.p (RG.p (RG.p (RG.p (RG.p (RG.p (RG.p (RG.p (RG.p (RG.p (RG.p f 22 v1) 55 (f.r 0)) 56 v18) 57 v19) 58 v20) 59 v21) 60 v21) 60 (Value.bool false)) 61 (f.r 4)) 62 (f.r 4)) 63 v22) 64 v23) 65 v24) 66 v25) 67 v26) 68 v26) h (contX pl32 prog J 73 n0 32 ct32 [1,1,1] (codeOf f32) [] (RetQP prog [] n0 K KP)))))) := sub_eq pok32 ct32 (by kernel_rfl)
theorem l32_1 (hJ : Closed prog main J) {S : Type} (μ : S → Nat) (I : S → RG → List AObj → Prop) (hI : ∀ s f h,I s f h → heapOk h → n0 ≤ h.length → W prog J 73 n0 32 (subC [1,0,1,0,0] (codeOf f32)) f h (thenK (Nx n0 μ I s) (contX pl32 prog J 73 n0 32 ct32 [1,0,1,0] (codeOf f32) [] (RetQP prog [] n0 K KP))))
 {s : S} {f : RG} (hi : Gets n0 I s f h) : Sem J 73 n0 32 (subC [1,0,1,0] (codeOf f32)) f h (contX pl32 prog J 73 n0 32 ct32 [1,0,1,0] (codeOf f32) [] (RetQP prog [] n0 K KP)) :=
 loop_rule hJ mixed (b := subC [1,0,1,0,0] (codeOf f32)) (by kernel_rfl) μ I hI hi
theorem s32_2 {f : RG} {nx0 : RG → List AObj → Prop} : W prog J 73 n0 32 (subC yp2 (codeOf f32)) f h (contX pl32 prog J 73 n0 32 ct32 yp2 (codeOf f32) [nx0] (RetQP prog [] n0 K KP)) =
(cnd (f.r 49)
(Sem J 73 n0 32 (subC [1,0,1,0,0,1,1,0,0,1,1,1,1,0] (codeOf f32)) f h (contX pl32 prog J 73 n0 32 ct32 [1,0,1,0,0,1,1,0,0,1,1,1,1,0] (codeOf f32) [nx0] (RetQP prog [] n0 K KP)))
(aBin prog .add 3 (f.r 21) (vint 1) fun v1 =>
 nx0 (RG.p (RG.p f 54 v1) 21 v1) h)) := sub_eq pok32 ct32 (by kernel_rfl)
theorem s32_3 {f : RG} : W prog J 73 n0 32 (subC [1,1,1] (codeOf f32)) f h (contX pl32 prog J 73 n0 32 ct32 [1,1,1] (codeOf f32) [] (RetQP prog [] n0 K KP)) =
(cnd (f.r 68)
(Sem J 73 n0 32 (subC [1,1,1,0] (codeOf f32)) f h (contX pl32 prog J 73 n0 32 ct32 [1,1,1,0] (codeOf f32) [] (RetQP prog [] n0 K KP)))
(retL n0 K f.ds [] h)) := sub_eq pok32 ct32 (by kernel_rfl)
end
end Go.Proofs.YtcmgjbflljmphaaGreatDoor
namespace Go.Proofs.YtcmgjbflljmphaaGreatDoor
open Go.Conc Go.Proofs.Tryz
set_option maxRecDepth 100000
theorem wordT_well {i : Nat} {r : List (List UInt8)} {t : Tro} : wordT i (wWell :: r) (t,false) = (kindW (wWell :: r) (decide (0 < i))).map fun y => ({ t with well := y },false) := by
 match r with
 | [] =>
  show (if wWell = wTrough ∧ i ≠ 0 then some (t,true) else none) = _
  rw [if_neg (fun h => absurd h.1 (by decide))]
  rfl
 | [a] => rfl
 | [a,b] =>
  show (if wWell = wWell then (if i = 0 then (welR a b).map fun w => ({ t with well := w },false) else none) else (if wWell = wFlock then (if i = 0 then none else (droR a b).map fun d => ({ t with flocks := t.flocks ++ [d] },false)) else none)) = Option.map _ (if decide (0 < i) = true then none else welR a b)
  rw [if_pos rfl]
  by_cases h : i = 0
  ·subst h
   rfl
  ·rw [if_neg h,if_pos (by simp; omega)]
   rfl
 | a :: b :: c :: l => rfl
theorem wordT_flock {i : Nat} {r : List (List UInt8)} {t : Tro} : wordT i (wFlock :: r) (t,false) = (kindF (wFlock :: r) (decide (0 < i))).map fun d => ({ t with flocks := t.flocks ++ [d] },false) := by
 match r with
 | [] =>
  show (if wFlock = wTrough ∧ i ≠ 0 then some (t,true) else none) = _
  rw [if_neg (fun h => absurd h.1 (by decide))]
  rfl
 | [a] => rfl
 | [a,b] =>
  show (if wFlock = wWell then (if i = 0 then (welR a b).map fun w => ({ t with well := w },false) else none) else if wFlock = wFlock then (if i = 0 then none else (droR a b).map fun d => ({ t with flocks := t.flocks ++ [d] },false)) else none) = Option.map _ (if decide (0 < i) = true then droR a b else none)
  rw [if_neg (by decide),if_pos rfl]
  by_cases h : i = 0
  ·subst h
   rfl
  ·rw [if_neg h,if_pos (by simp; omega)]
 | a :: b :: c :: l => rfl
theorem wordT_trough {i : Nat} {r : List (List UInt8)} {t : Tro} : wordT i (wTrough :: r) (t,false) = if (decide ((wTrough :: r).length = 1) && decide (0 < i)) = true then some (t,true) else none := by
 match r with
 | [] =>
  show (if wTrough = wTrough ∧ i ≠ 0 then some (t,true) else none) = _
  by_cases h : i = 0
  ·subst h
   rfl
  ·rw [if_pos ⟨rfl,h⟩,if_pos (by simp; omega)]
 | [a] => rfl
 | [a,b] =>
  show (if wTrough = wWell then (if i = 0 then (welR a b).map fun w => ({ t with well := w },false) else none) else if wTrough = wFlock then (if i = 0 then none else (droR a b).map fun d => ({ t with flocks := t.flocks ++ [d] },false)) else none) = _
  rw [if_neg (by decide),if_neg (by decide)]
  rfl
 | a :: b :: c :: l => rfl
theorem wordT_none {i : Nat} {u : List UInt8} {r : List (List UInt8)} {t : Tro} (h1 : u ≠ wWell) (h2 : u ≠ wFlock) (h3 : u ≠ wTrough) : wordT i (u :: r) (t,false) = none := by
 match r with
 | [] => exact if_neg fun h => h3 h.1
 | [a] => rfl
 | [a,b] =>
  show (if u = wWell then (if i = 0 then (welR a b).map fun w => ({ t with well := w },false) else none) else if u = wFlock then (if i = 0 then none else (droR a b).map fun d => ({ t with flocks := t.flocks ++ [d] },false)) else none) = _
  rw [if_neg h1,if_neg h2]
 | a :: b :: c :: l => rfl
theorem beqB (a b : List UInt8) : ((⟨⟨a⟩⟩ : ByteArray) == ⟨⟨b⟩⟩) = decide (a = b) := by
 show ((⟨a⟩ : Array UInt8) == ⟨b⟩) = _
 rw [beqD]
 exact decide_eq_decide.2 ⟨fun h => by simpa using h,fun h => by rw [h]⟩
theorem teq_str (a b : List UInt8) : teq prog 10000 9 (strV a) (strV b) = some (decide (a = b)) := by
 have e : ∀ x y : ByteArray,teq prog 10000 9 (.string x) (.string y) = some (x == y) := fun x y => by kernel_rfl
 rw [show strV a = .string ⟨⟨a⟩⟩ from rfl,show strV b = .string ⟨⟨b⟩⟩ from rfl,e,beqB]
theorem kOk_str (a : List UInt8) : kOk prog 10000 9 (strV a) = true := by kernel_rfl
theorem same_str (a : List UInt8) : Instr.sameBits 10000 (strV a) (strV a) = true := by
 show ((⟨⟨a⟩⟩ : ByteArray) == ⟨⟨a⟩⟩) = true
 rw [beqB,decide_eq_true rfl]
theorem strV_inj {a b : List UInt8} (h : strV a = strV b) : a = b := by simpa [strV] using h
def fnK (b2 g : Nat) : Value := .func (.func g) ⟨[]⟩ ⟨[ptr b2 0]⟩
def kdsM (b2 : Nat) : List (Value × Value) := [(strV wWell,fnK b2 73),(strV wFlock,fnK b2 77),(strV wTrough,fnK b2 78)]
def kdsAt (b2 : Nat) (u : List UInt8) : Value × Bool := if u = wWell then (fnK b2 73,true) else if u = wFlock then (fnK b2 77,true) else if u = wTrough then (fnK b2 78,true) else (.nilFunc,false)
section
variable {main : Bool} {J : JT} {H : List AObj} {K : Value → List AObj → Prop} {KV : Value → Prop} {HL : List AObj → Prop} {F : RG} {n0 b2 pg : Nat}
theorem updStr {b : Nat} {es : List (Value × Value)} {k : List UInt8} {v : Value} (hb : H[b]? = some (.map es true)) (hes : ∀ e ∈ es,∃ u,e.1 = strV u ∧ k ≠ u) (hk : ∀ H',SameX [b] H H' → H'[b]? = some (.map (es ++ [(strV k,v)]) true) → H'.length = H.length → HL H') : aUpdX prog 110 (.map (some b)) (strV k) v H HL := by
 have hlt := lt_of_get hb
 unfold aUpdX
 rw [show prog.underlying 110 = some (.map 9 112) by kernel_rfl]
 simp only [hb]
 refine ⟨kOk_str k,by simp [strV,VOk],same_str k,fun e he => ?_,?_⟩
 ·obtain ⟨u,hu,hne⟩ := hes e he
  rw [hu,teq_str]
  congr 1
  exact decide_eq_decide.2 ⟨fun h => absurd h hne,fun h => strV_inj h⟩
 ·have hul : ∀ l : List (Value × Value),(∀ e ∈ l,∃ u,e.1 = strV u ∧ k ≠ u) → updL (strV k) v l = l ++ [(strV k,v)] := by
   intro l
   induction l with
   | nil => intro _; simp [updL]
   | cons x l ih =>
    intro h
    obtain ⟨u,hu,hne⟩ := h x (by simp)
    obtain ⟨a,c⟩ := x
    simp only at hu
    simp only [updL]
    rw [if_neg (fun e => hne (strV_inj (e.trans hu))),ih fun e he => h e (by simp [he])]
    rfl
  rw [hul es hes]
  exact hk _ ⟨by simp,fun i hi hn => by rw [List.getElem?_set_ne (fun e => hn (by simp [e]))]⟩ (by simp [hlt]) (by simp)
theorem mkFK {g b : Nat} (hk : KV (fnK b g)) : aMkF g [] [ptr b 0] KV := ⟨rfl,hk⟩
theorem look_kds {m : Nat} {wr : Bool} {u : List UInt8} (hm : H[m]? = some (.map (kdsM b2) wr)) (hk : KV (.tuple ⟨[(kdsAt b2 u).1,.bool (kdsAt b2 u).2]⟩)) : aLook prog 110 true (.map (some m)) (strV u) H KV := by
 unfold aLook
 rw [show prog.underlying 110 = some (.map 9 112) by kernel_rfl]
 simp only [hm]
 rw [show zv1 prog 112 = some .nilFunc by kernel_rfl]
 refine ⟨kOk_str u,?_⟩
 unfold kdsM
 simp only [mfind,teq_str]
 unfold kdsAt at hk
 by_cases h1 : u = wWell
 ·simp only [if_pos h1] at hk
  rw [decide_eq_true h1]
  exact hk
 ·simp only [if_neg h1] at hk
  rw [decide_eq_false h1]
  by_cases h2 : u = wFlock
  ·simp only [if_pos h2] at hk
   rw [decide_eq_true h2]
   exact hk
  ·simp only [if_neg h2] at hk
   rw [decide_eq_false h2]
   by_cases h3 : u = wTrough
   ·simp only [if_pos h3] at hk
    rw [decide_eq_true h3]
    exact hk
   ·simp only [if_neg h3] at hk
    rw [decide_eq_false h3]
    exact hk
theorem good57 (hJ : Closed prog main J) (hK : ∀ b2 m H',SameX [] H H' → H'[b2]? = some (.cells [ptr pg 0] true 0) → H'[m]? = some (.map (kdsM b2) true) → H.length ≤ b2 → H.length ≤ m → K (.map (some m)) H') : Good prog J 57 [ptr pg 0] H K := by
 refine g57 hJ fun ok => ?_
 rw [e57]
 have hv : ∀ {n b g : Nat},b < n → VOk n (fnK b g) ∧ one (fnK b g) = true := fun h => ⟨by simp only [fnK,VOk,AOk,LOk,ptr,AddrOk]; simp [h,FnOk],rfl⟩
 refine qBox1 (v := ptr pg 0) rfl rfl fun H1 b2 e1 S1 c1 l1 => qNewM fun H2 m e2 S2 c2 l2 => mkFK ⟨hv (by omega),?_⟩
 refine updStr (k := wWell) c2 (by simp) fun H3 S3 c3 l3 => mkFK ⟨hv (by omega),?_⟩
 refine updStr (k := wFlock) c3 (fun e he => ⟨wWell,by simp at he; rw [he],by decide⟩) fun H4 S4 c4 l4 => mkFK ⟨hv (by omega),?_⟩
 refine updStr (k := wTrough) c4 (fun e he => by
  simp only [List.nil_append,List.singleton_append,List.mem_cons,List.not_mem_nil,or_false] at he
  rcases he with rfl | rfl
  ·exact ⟨wWell,rfl,by decide⟩
  ·exact ⟨wFlock,rfl,by decide⟩) fun H5 S5 c5 l5 => ?_
 have S : SameX [] H1 H5 := ((S2.thru S3 (by simp; omega)).thru S4 (by simp; omega)).thru S5 (by simp; omega)
 exact retL_same (by simp [unk]) (hK b2 m H5 (S1.trans S) (S.get c1 (by simp)) c5 (by omega) (by omega))
end
end Go.Proofs.YtcmgjbflljmphaaGreatDoor
namespace Go.Proofs.YtcmgjbflljmphaaGreatDoor
open Go.Conc
section
variable {P : Program} {main : Bool} {J : JT} {N n0 : Nat} {ops : Array Oper} {f : RG} {h : List AObj} {fn : FuncId} {Q : QT} {i : Nat} {rest : List Nat} {o : Oper}
theorem SemOps_app (hJ : Closed P main J) {rest : List Nat} : ∀ (todo : List Nat) {dec : Dec} {f : RG} {h : List AObj},decOk ops dec f → opsW P (Good P J) N ops todo dec f h (fun f h => SemOps J N n0 fn ops rest f h Q) → SemOps J N n0 fn ops (todo ++ rest) f h Q
 | [],_,f,h,_,hq => hq
 | i :: todo,dec,f,h,hdec,hq => by
  unfold opsW at hq
  cases ho : ops[i]? with
  | none => rw [ho] at hq; exact hq.elim
  | some o =>
   rw [ho] at hq
   simp only at hq
   cases hc : dstOk N o with
   | false => rw [hc] at hq; exact hq.elim
   | true =>
    rw [hc,cond_true] at hq
    obtain ⟨w,dec',hd',hg,hq⟩ := goG_out hdec hq
    cases w with
    | true =>
     rw [cond_true] at hq
     exact SemOps_cons hJ ho (dstOk_lt hc) (opG_of hg hq) fun v h' k => SemOps_app hJ todo (decOk_put hd') k
    | false =>
     rw [cond_false] at hq
     refine SemOps_cons hJ ho (dstOk_lt hc) (K := fun v h' => v = undef ∧ h' = h) (opG_of hg ⟨rfl,rfl⟩) ?_
     rintro v h' ⟨rfl,rfl⟩
     exact SemOps_app hJ todo (decOk_skip ho hd') hq
theorem gd_none (hg : o.guard = none) (r : Nat → Value) : gd ops o r = some true := by
 unfold gd
 rw [hg]
theorem SemOps_tya (hJ : Closed P main J) (ho : ops[i]? = some o) {x : Operand} {xt t : TypeId} (hop : o.op = .typeAssert x xt t true) (hg : o.guard = none) {d : Nat} (hd : o.dst = some d) (hdN : d < N) {fs : Array Field} (hu : P.underlying t = some (.struct fs))
  {v : Value} (hv : ev f.r x = .iface t v) (hs : SemOps J N n0 fn ops rest (f.p d (.tuple ⟨[v,.bool true]⟩)) h Q) : SemOps J N n0 fn ops (i :: rest) f h Q := by
 intro b a k cs L ρ FC w ft h1 h2 h3 h4 h5 h6 hc
 have hw := gd_wanted h4 (gd_none (ops := ops) hg f.r)
 have hnd : ∀ c,o.op ≠ .defer c := fun c e => by rw [hop] at e; cases e
 have hk' : (b.kind == CallKind.early) = false := by simpa using h2
 obtain ⟨hok,hval⟩ := (ev_rel h4.regs x).val (by rw [hv]; simp [unk])
 rw [hv] at hval hok
 simp only [ren] at hval
 simp only [VOk] at hok
 have hrun : ∀ w : World,RunsTo P (fun _ => False) (execOp a.eval o) w fun nx w' => nx = .value (.tuple #[ren ρ v,.bool true]) ∧ w' = w := fun w => by
  unfold execOp
  rw [hop]
  simp only
  refine RunsTo.bind ?_
  unfold Instr.typeAssert
  refine RunsTo.bind (RunsTo.underlying hu ?_)
  rw [hval]
  simp only [if_true]
  exact RunsTo.pure (RunsTo.pure ⟨rfl,rfl⟩)
 have hfin := FB.finish_at b a ops i rest k (.tuple #[ren ρ v,.bool true])
 rw [ho] at hfin
 simp only [Option.bind_some,hd] at hfin
 refine hJ.ctrl rfl rfl (g' := G (b.at (a.put (some d) (.tuple #[ren ρ v,.bool true])) (.inRegion ops rest :: k)) cs) (fun w => ?_) ?_
 ·obtain ⟨nx,w',hr,rfl,rfl⟩ := quiet_run (hrun w)
  rw [stepG_op ho hw hnd,← hfin]
  simp only [stepG.apply,hr,if_true]
  simp [G,FB.at,hk',GStep.after,seen]
 ·refine hs b _ k cs L ρ FC w ft h1 h2 h3 (act_put (d := some d) (v := .tuple ⟨[v,.bool true]⟩) h4 (fun t e => by cases e; exact hdN) (.inr ⟨?_,?_⟩)) h5 h6 hc
  ·simp [VOk,AOk,LOk,hok]
  ·simp [ren,renA,renL]
def dcallV (g : FuncId) (cap : List Value) : Deferred := { target := .fn (.func g) ⟨cap⟩,args := #[] }
section
variable {m : Nat} {b : FB} {cs : List Frame} {FC : Frm} {ρ0 : Env} {K : List Item}
theorem At.reroot {k : List Item} (hh : ∀ ρ1,Env.upto m ρ0 ρ1 → m ≤ h.length → At J N b cs FC ρ1 h.length k f h) : At J N b cs FC ρ0 m k f h :=
 fun a ρ w ft A H hu hm => hh ρ hu hm a ρ w ft A H (Env.upto_refl _ _) (Nat.le_refl _)
def AtE (J : JT) (N : Nat) (b : FB) (cs : List Frame) (FC : Frm) (ρ0 : Env) (m : Nat) (md : FrameMode) (f : RG) (h : List AObj) : Prop :=
 ∀ (a : Act) (ρ : Env) (w : World) (ft : Foot) (todo : List Item),ActRel h.length ρ N f a → HRel ρ h FC w ft → Env.upto m ρ0 ρ → m ≤ h.length → J (G { (b.at a todo) with mode := md } cs) w ft
theorem At.ret (hJ : Closed P main J) (hro : b.ro = none) {k : List Item} (hh : AtE J N b cs FC ρ0 m .returning f h) : At J N b cs FC ρ0 m (.code .ret :: k) f h :=
 fun a ρ w ft A H hu hm => hJ.ctrl rfl rfl (fun w => by simp [G,stepG,stepG.exec,FB.at,hro]) (hh a ρ w ft (.code .ret :: k) A H hu hm)
theorem At.done (hJ : Closed P main J) (hro : b.ro = none) (hh : AtE J N b cs FC ρ0 m .returning f h) : At J N b cs FC ρ0 m [] f h :=
 fun a ρ w ft A H hu hm => hJ.ctrl rfl rfl (fun w => by simp [G,stepG,stepG.exec,FB.at,hro]) (hh a ρ w ft [] A H hu hm)
theorem At.skip (hJ : Closed P main J) {k : List Item} (hh : At J N b cs FC ρ0 m k f h) : At J N b cs FC ρ0 m (.code .skip :: k) f h :=
 At.ctrl hJ (fun a w => by simp [G,stepG,stepG.exec,FB.at]) hh
theorem At.cond (hJ : Closed P main J) {c : Operand} {x y : Code} {k : List Item} {t : Bool} (ht : ev f.r c = .bool t) (hh : At J N b cs FC ρ0 m (.code (if t then x else y) :: k) f h) : At J N b cs FC ρ0 m (.code (.cond c x y) :: k) f h := by
 intro a ρ w ft A H hu hm
 have hv := ((ev_rel A.regs c).val (by rw [ht]; simp [unk])).2
 rw [ht] at hv
 simp only [ren] at hv
 have he : ∀ todo,(b.at a todo).eval c = .bool t := fun todo => by rw [← hv]; cases c <;> rfl
 refine hJ.ctrl rfl rfl (g' := G (b.at a (.code (if t then x else y) :: k)) cs) (fun w => ?_) (hh a ρ w ft A H hu hm)
 have := he (.code (.cond c x y) :: k)
 simp only [FB.at] at this
 simp [G,stepG,stepG.exec,FB.at,this]
theorem At.deferV (hJ : Closed P main J) (hk : b.kind ≠ .early) (hro : b.ro = none) (hbd : b.dfs = []) (ho : ops[i]? = some o) (hg : o.guard = none) {x : Operand} {ats : Array TypeId} (hop : o.op = .defer { callee := .value x,args := #[],argTypes := ats }) (hdst : o.dst = none)
  {g : FuncId} {cap : List Value} (hx : ev f.r x = .func (.func g) ⟨[]⟩ ⟨cap⟩) (hcm : LOk m cap) (hds : f.ds = [])
  (h' : At J N { b with dfs := [dcallV g (cap.map (ren ρ0))] } cs FC ρ0 m (.inRegion ops rest :: K) f h) : At J N b cs FC ρ0 m (.inRegion ops (i :: rest) :: K) f h := by
 intro a ρ w ft A H hu hm
 have hw := gd_wanted A (gd_none (ops := ops) hg f.r)
 have hk' : (b.kind == CallKind.early) = false := by simpa using hk
 have hxv := ((ev_rel A.regs x).val (by rw [hx]; simp [unk])).2
 rw [hx] at hxv
 simp only [ren,renFn,renA] at hxv
 rw [renL_congr hu _ hcm] at hxv
 simp only [renL,renL_eq] at hxv
 have had : a.defers = [] := by rw [A.defers,hds]; rfl
 obtain ⟨bf,bk,br,bd⟩ := b
 simp only at hk hro hbd hk'
 subst hro hbd
 have hr : ∀ w : World,(execOp a.eval o).runT P w #[] = (.ok (.defer (dcallV g (cap.map (ren ρ0)))) w,#[]) := fun w => by
  have hrun : RunsTo P (fun _ => False) (execOp a.eval o) w fun nx w' => nx = .defer (dcallV g (cap.map (ren ρ0))) ∧ w' = w := by
   unfold execOp
   rw [hop]
   simp only
   refine RunsTo.bind ?_
   unfold resolve
   simp only [hxv,Deferred.ofValue]
   exact RunsTo.pure (RunsTo.pure ⟨by simp [dcallV],rfl⟩)
  obtain ⟨nx,w',hr,rfl,rfl⟩ := quiet_run hrun
  exact hr
 refine hJ.ctrl rfl rfl (g' := G (FB.at ⟨bf,bk,none,[dcallV g (cap.map (ren ρ0))]⟩ a (.inRegion ops rest :: K)) cs) (fun w => ?_) (h' a ρ w ft A H hu hm)
 have he := FB.eval_at ⟨bf,bk,none,[]⟩ a (.inRegion ops (i :: rest) :: K)
 simp only [FB.at] at he
 have hr := hr w
 simp only [G,stepG,stepG.exec,stepG.oper,Frame.oper?,FB.at,ho,hw,he,Option.map_some,Option.getD_some,if_true]
 simp only [stepG.apply,hr,if_true]
 simp [hk',GStep.after,Frame.finish,ho,hdst,had,seen]
theorem AtE.call (hJ : Closed P main J) {bf : FuncId} {bk : CallKind} {g : FuncId} {fg : Func} {cap : List Value} {md : FrameMode} (hmd : md ≠ .run) (hf : P.funcs[g]? = some fg) {c : Code} (hb : fg.body = some c) (hn : (fg.name == "runtime.NumGoroutine") = false) (hcm : LOk m cap) (hds : f.ds = [])
  (hh : ∀ (a : Act) (ρ : Env) (w : World) (ft : Foot) (todo : List Item),ActRel h.length ρ N f a → HRel ρ h FC w ft → Env.upto m ρ0 ρ → m ≤ h.length → J (G (Frame.enter P g ⟨cap.map (ren ρ)⟩ .deferred) ({ (FB.at ⟨bf,bk,none,[]⟩ a todo) with mode := md } :: cs)) w ft) :
  AtE J N ⟨bf,bk,none,[dcallV g (cap.map (ren ρ0))]⟩ cs FC ρ0 m md f h := by
 intro a ρ w ft todo A H hu hm
 have had : a.defers = [] := by rw [A.defers,hds]; rfl
 have hcap : cap.map (ren ρ) = cap.map (ren ρ0) := List.map_congr_left fun v hv => ren_congr hu v ((LOk_iff cap).1 hcm v hv)
 have hh := hh a ρ w ft todo A H hu hm
 rw [hcap] at hh
 refine hJ.ctrl rfl rfl (fun w => ?_) hh
 have hn' : ¬ fg.name = "runtime.NumGoroutine" := by simpa using hn
 cases md with
 | run => exact absurd rfl hmd
 | returning => simp [G,stepG,unwind,callDeferred,FB.at,had,dcallV,invoke,callFunc,hf,hn',hb,GStep.after,seen_none]
 | panicking ch => simp [G,stepG,unwind,callDeferred,FB.at,had,dcallV,invoke,callFunc,hf,hn',hb,GStep.after,seen_none]
def QK (K : List AObj → Prop) : QT := fun e f h => e = .normal ∧ f.ds = [] ∧ K h
theorem close_of_sem (hJ : Closed P main J) {g : FuncId} {fg : Func} {cap : List Value} {id : Nat} {rest : Code} {d : Nat} {ats : Array TypeId} {KH : List AObj → Prop} (hf : P.funcs[g]? = some fg) (hb : fg.body = some (.seq (.region id ops false) rest)) (hres : fg.results = #[]) (hc : cap.length ≤ fg.ntmps) (hcap : LOk h.length cap)
  (ho : ops[0]? = some o) (hop : o.op = .call { callee := .builtin .recover,args := #[],argTypes := ats }) (hg : o.guard = none) (hd : o.dst = some d) (hdN : d < fg.ntmps) {tl : List Nat} (htl : List.range ops.size = 0 :: tl)
  {rv : Value} (hrv : VOk 0 rv) (hs : heapOk h → SemOps J fg.ntmps h.length g ops tl (RG.p ⟨regs cap,[]⟩ d rv) h (thenK (fun f' h' => Sem J fg.ntmps h.length g rest f' h' (QK KH)) (QK KH)))
  {ρ : Env} {w : World} {ft : Foot} {X : Frame} (hX : (X.mode = .returning ∧ rv = .nilIface) ∨ X.mode = .panicking [{ v := rv,recovered := false }]) (H : HRel ρ h FC w ft)
  (hend : ∀ h' ρ' w' ft',KH h' → HRel ρ' h' FC w' ft' → Env.upto h.length ρ ρ' → h.length ≤ h'.length → J (G { X with mode := .returning } cs) w' ft') :
  J (G (Frame.enter P g ⟨cap.map (ren ρ)⟩ .deferred) (X :: cs)) w ft := by
 have hk : ∀ l : List Value,l.length = cap.length → True := fun _ _ => trivial
 have he : Frame.enter P g ⟨cap.map (ren ρ)⟩ .deferred = FB.at ⟨g,.deferred,none,[]⟩ ⟨⟨cap.map (ren ρ)⟩ ++ Array.replicate (fg.ntmps - cap.length) undef,[]⟩ [.code (.seq (.region id ops false) rest)] := by
  simp [Frame.enter,FB.at,hf,hb]
 rw [he]
 have A : ActRel h.length ρ fg.ntmps ⟨regs cap,[]⟩ ⟨⟨cap.map (ren ρ)⟩ ++ Array.replicate (fg.ntmps - cap.length) undef,[]⟩ := by
  refine ⟨fun t => ?_,by simp; omega,rfl,by simp⟩
  have := getD_ren (ρ := ρ) hcap t
  have ht : ((⟨cap.map (ren ρ)⟩ : Array Value) ++ Array.replicate (fg.ntmps - cap.length) undef).getD t undef = (cap.map (ren ρ)).getD t undef := by
   rw [Array.getD_eq_getD_getElem?,List.getD_eq_getElem?_getD]
   by_cases hx : t < cap.length
   ·rw [Array.getElem?_append_left (by simpa using hx)]
    simp
   ·rw [Array.getElem?_append_right (by simp; omega),List.getElem?_eq_none (by simp; omega)]
    simp only [Array.getElem?_replicate]
    split <;> rfl
  rw [ht]
  exact this
 generalize (⟨⟨cap.map (ren ρ)⟩ ++ Array.replicate (fg.ntmps - cap.length) undef,[]⟩ : Act) = a at A
 refine hJ.ctrl rfl rfl (g' := G (FB.at ⟨g,.deferred,none,[]⟩ a [.code (.region id ops false),.code rest]) (X :: cs)) (fun w => by simp [G,stepG,stepG.exec,FB.at]) ?_
 refine hJ.ctrl rfl rfl (g' := G (FB.at ⟨g,.deferred,none,[]⟩ a [.inRegion ops (0 :: tl),.code rest]) (X :: cs)) (fun w => by simp [G,stepG,stepG.exec,FB.at,htl]) ?_
 have hw := gd_wanted A (gd_none (ops := ops) hg _)
 have hnd : ∀ c,o.op ≠ .defer c := fun c e => by rw [hop] at e; cases e
 have hr : ∀ w : World,(execOp a.eval o).runT P w #[] = (.ok .recover w,#[]) := fun w => by
  have hrun : RunsTo P (fun _ => False) (execOp a.eval o) w fun nx w' => nx = .recover ∧ w' = w := by
   unfold execOp
   rw [hop]
   simp only
   refine RunsTo.bind ?_
   unfold resolve
   simp only
   refine RunsTo.pure ?_
   unfold invoke builtin
   exact RunsTo.pure ⟨rfl,rfl⟩
  obtain ⟨nx,w',hr,rfl,rfl⟩ := quiet_run hrun
  exact hr
 -- the caller behind that
 have hfin := FB.finish_at ⟨g,.deferred,none,[]⟩ a ops 0 tl [.code rest] rv
 rw [ho] at hfin
 simp only [Option.bind_some,hd] at hfin
 have A2 : ActRel h.length ρ fg.ntmps (RG.p ⟨regs cap,[]⟩ d rv) (a.put (some d) rv) := act_put (d := some d) A (fun t e => by cases e; exact hdN) (.inr ⟨VOk.mono (Nat.zero_le _) _ hrv,(ren0 rv hrv).symm⟩)
 -- the end of the closure
 have last : ∀ (Y : Frame),((Y = X ∧ X.mode = .returning) ∨ Y = { X with mode := .panicking [{ v := rv,recovered := true }] }) → ∀ (a' : Act) (todo : List Item) (w' : World) (ft' : Foot),a'.defers = [] → J (G { X with mode := .returning } cs) w' ft' → J (G { (FB.at ⟨g,.deferred,none,[]⟩ a' todo) with mode := .returning } (Y :: cs)) w' ft' := by
  intro Y hY a' todo w' ft' had hj
  have hres' : ∀ w : World,(results fg a'.tmps).runT P w #[] = (.ok (.tuple #[]) w,#[]) := fun w => by
   have hrun : RunsTo P (fun _ => False) (results fg a'.tmps) w fun v w' => v = .tuple #[] ∧ w' = w := by
    unfold results
    rw [hres,Array.mapM_eq_mapM_toList]
    exact RunsTo.bind (RunsTo.map (RunsTo.pure (RunsTo.pure ⟨by simp,rfl⟩)))
   obtain ⟨v,w',hr,rfl,rfl⟩ := quiet_run hrun
   exact hr
  refine hJ.ctrl rfl rfl (fun w => ?_) hj
  obtain ⟨xf,xt,xto,xd,xm,xk,xr⟩ := X
  rcases hY with ⟨rfl,hm⟩ | rfl
  ·simp only at hm
   subst hm
   simp only [G,stepG,FB.at,unwind,had,hf,hres' w,List.append_nil]
   simp [doReturn,GStep.after,seen]
  ·simp only [G,stepG,FB.at,unwind,had,hf,hres' w,List.append_nil]
   simp [doReturn,GStep.after,seen]
 have go : ∀ (Y : Frame),((Y = X ∧ X.mode = .returning) ∨ Y = { X with mode := .panicking [{ v := rv,recovered := true }] }) → J (G (FB.at ⟨g,.deferred,none,[]⟩ (a.put (some d) rv) (.inRegion ops tl :: [.code rest])) (Y :: cs)) w ft := by
  intro Y hY
  have key : ∀ (e : Exit) (f' : RG) (h' : List AObj) (ρ' : Env) (w' : World) (ft' : Foot) (a' : Act),QK KH e f' h' → ActRel h'.length ρ' fg.ntmps f' a' → HRel ρ' h' FC w' ft' → Env.upto h.length ρ ρ' → h.length ≤ h'.length → AfterJ J ⟨g,.deferred,none,[]⟩ [] (Y :: cs) (fun _ _ _ _ => False) (renX ρ' e) a' w' ft' := by
   rintro e f' h' ρ' w' ft' a' ⟨rfl,hds,hK⟩ A' H' hu hl
   have had : a'.defers = [] := by rw [A'.defers,hds]; rfl
   show J (G (FB.at ⟨g,.deferred,none,[]⟩ a' []) (Y :: cs)) w' ft'
   exact hJ.ctrl rfl rfl (fun w => by simp [G,stepG,stepG.exec,FB.at]) (last Y hY a' [] w' ft' had (hend h' ρ' w' ft' hK H' hu hl))
  refine hs H.ok ⟨g,.deferred,none,[]⟩ _ [.code rest] (Y :: cs) (fun _ _ _ _ => False) ρ FC w ft rfl (by simp) (fun _ _ _ _ _ hx _ => hx.elim) A2 H (Nat.le_refl _) ?_
  intro e f' h' ρ' w' ft' a' q A' H' hu hl
  cases e with
  | normal =>
   have q : Sem J fg.ntmps h.length g rest f' h' (QK KH) := q
   exact q ⟨g,.deferred,none,[]⟩ a' [] (Y :: cs) (fun _ _ _ _ => False) ρ' FC w' ft' rfl (by simp) (fun _ _ _ _ _ hx _ => hx.elim) A' H' hl fun e f2 h2 ρ2 w2 ft2 a2 q2 B1 B2 B3 B4 => key e f2 h2 ρ2 w2 ft2 a2 q2 B1 B2 (Env.upto_trans hu B3) B4
  | _ => cases q.1
 have st : ∀ (Y : Frame) (w : World),((tryRecover (FB.at ⟨g,.deferred,none,[]⟩ a (.inRegion ops (0 :: tl) :: [.code rest])) (X :: cs) = none ∧ rv = .nilIface ∧ Y = X) ∨ tryRecover (FB.at ⟨g,.deferred,none,[]⟩ a (.inRegion ops (0 :: tl) :: [.code rest])) (X :: cs) = some (rv,Y :: cs)) →
   stepG P main (G (FB.at ⟨g,.deferred,none,[]⟩ a [.inRegion ops (0 :: tl),.code rest]) (X :: cs)) w = .go (G (FB.at ⟨g,.deferred,none,[]⟩ (a.put (some d) rv) (.inRegion ops tl :: [.code rest])) (Y :: cs)) w #[] := by
  intro Y w hY
  rw [stepG_op ho hw hnd,← hfin]
  simp only [stepG.apply,hr w,if_true]
  rcases hY with ⟨h1,rfl,rfl⟩ | h1
  ·simp only [FB.at,List.append_nil] at h1
   simp [h1,G,GStep.after,seen,FB.at]
  ·simp only [FB.at,List.append_nil] at h1
   simp [h1,G,GStep.after,seen,FB.at]
 rcases hX with ⟨hm,rfl⟩ | hm
 ·exact hJ.ctrl rfl rfl (fun w => st X w (.inl ⟨by simp [tryRecover,FB.at,hm],rfl,rfl⟩)) (go X (.inl ⟨rfl,hm⟩))
 ·exact hJ.ctrl rfl rfl (fun w => st _ w (.inr (by simp [tryRecover,FB.at,hm]))) (go { X with mode := .panicking [{ v := rv,recovered := true }] } (.inr rfl))
theorem At.pieceR (hJ : Closed P main J) (hro : b.ro = none) {n1 : Nat} {c : Code} {k : List Item} (hb : b.tag = fn) (hk : b.kind ≠ .early) (hs : Sem J N n1 fn c f h Q) (h1 : m ≤ n1) (h2 : n1 ≤ h.length)
  (hq : ∀ e f' h',Q e f' h' → (e = .normal ∧ At J N b cs FC ρ0 m k f' h') ∨ (e = .ret ∧ AtE J N b cs FC ρ0 m .returning f' h') ∨ ∃ v,e = .panic [{ v,recovered := false }] ∧ VOk 0 v ∧ AtE J N b cs FC ρ0 m (.panicking [{ v,recovered := false }]) f' h') : At J N b cs FC ρ0 m (.code c :: k) f h := by
 intro a ρ w ft A H hu hm
 refine hs b a k cs (fun jump a w ft => jump = some .ret ∧ ∀ todo,J (G { (b.at a todo) with mode := .returning } cs) w ft) ρ FC w ft hb hk ?_ A H h2 fun e f' h' ρ' w' ft' a' q A' H' hu' hl' => ?_
 ·rintro jump a w ft todo ⟨rfl,hj⟩ hh
  rcases hh with ⟨_,k,rfl⟩ | ⟨id,k,e,_⟩ | ⟨e,_⟩
  ·exact hJ.ctrl rfl rfl (fun w => by simp [G,stepG,stepG.exec,FB.at,hro]) (hj (.code .ret :: k))
  ·cases e
  ·cases e
 have up : Env.upto m ρ0 ρ' := Env.upto_trans hu (Env.upto_le hu' h1)
 rcases hq e f' h' q with ⟨rfl,hat⟩ | ⟨rfl,hat⟩ | ⟨v,rfl,hv,hat⟩
 ·exact hat a' ρ' w' ft' A' H' up (Nat.le_trans h1 hl')
 ·exact ⟨rfl,fun todo => hat a' ρ' w' ft' todo A' H' up (Nat.le_trans h1 hl')⟩
 ·intro todo
  have := hat a' ρ' w' ft' todo A' H' up (Nat.le_trans h1 hl')
  have e : ren ρ' v = v := ren0 v hv
  simp only [List.map_cons,List.map_nil,e]
  exact this
theorem AtE.finish (hJ : Closed P main J) {bf : FuncId} {fn : Func} (hf : P.funcs[bf]? = some fn) {c : Frame} {K : Value → List AObj → Prop}
  (hc : ∀ v h' ρ' w' ft' cv,K v h' → HRel ρ' h' FC w' ft' → Env.upto m ρ0 ρ' → m ≤ h'.length → VRel h'.length ρ' v cv → J (G (c.finish cv) cs) w' ft') (hds : f.ds = []) (hq : resW P fn.results.toList f.r h fun vs => K (pack vs) h) :
  AtE J N ⟨bf,.normal,none,[]⟩ (c :: cs) FC ρ0 m .returning f h := by
 intro a ρ w ft todo A H hu hm
 have had : a.defers = [] := by rw [A.defers,hds]; rfl
 exact leave_run (b := ⟨bf,.normal,none,[]⟩) (f := f) (n0 := m) (ρ := ρ) hJ rfl hf (fun v h2 ρ2 w2 ft2 cv k H2 u2 l2 v2 => hc v h2 ρ2 w2 ft2 cv k H2 (Env.upto_trans hu u2) l2 v2) [] h w ft a _ rfl rfl rfl rfl (by simp [FB.at,had]) A.regs H hm (resW_imp _ hq fun vs h => .inl h)
theorem AtE.close (hJ : Closed P main J) {bf : FuncId} {g : FuncId} {fg : Func} {cap : List Value} {id : Nat} {rest : Code} {d : Nat} {ats : Array TypeId} {KH : List AObj → Prop} (hf : P.funcs[g]? = some fg) (hb : fg.body = some (.seq (.region id ops false) rest)) (hn : (fg.name == "runtime.NumGoroutine") = false) (hres : fg.results = #[]) (hc : cap.length ≤ fg.ntmps) (hcm : LOk m cap)
  (ho : ops[0]? = some o) (hop : o.op = .call { callee := .builtin .recover,args := #[],argTypes := ats }) (hg : o.guard = none) (hd : o.dst = some d) (hdN : d < fg.ntmps) {tl : List Nat} (htl : List.range ops.size = 0 :: tl)
  {rv : Value} {md : FrameMode} (hmd : (md = .returning ∧ rv = .nilIface) ∨ md = .panicking [{ v := rv,recovered := false }]) (hrv : VOk 0 rv) (hds : f.ds = [])
  (hs : heapOk h → SemOps J fg.ntmps h.length g ops tl (RG.p ⟨regs cap,[]⟩ d rv) h (thenK (fun f' h' => Sem J fg.ntmps h.length g rest f' h' (QK KH)) (QK KH)))
  (hk : ∀ h',KH h' → h.length ≤ h'.length → AtE J N ⟨bf,.normal,none,[]⟩ cs FC ρ0 m .returning f h') :
  AtE J N ⟨bf,.normal,none,[dcallV g (cap.map (ren ρ0))]⟩ cs FC ρ0 m md f h := by
 have hcm' : ∀ {n : Nat},m ≤ n → LOk n cap := fun hle => (LOk_iff cap).2 fun v hv => VOk.mono hle _ ((LOk_iff cap).1 hcm v hv)
 refine AtE.call hJ (by rcases hmd with ⟨rfl,_⟩ | rfl <;> simp) hf hb hn hcm hds fun a ρ w ft todo A H hu hm => ?_
 exact close_of_sem hJ hf hb hres hc (hcm' hm) ho hop hg hd hdN htl hrv hs (X := { (FB.at ⟨bf,.normal,none,[]⟩ a todo) with mode := md }) (hmd.imp (fun h => h) fun h => h) H fun h' ρ' w' ft' hK H' hu' hl' => hk h' hK hl' a ρ' w' ft' todo (upto_act hu' hl' A) H' (Env.upto_trans hu (Env.upto_le hu' hm)) (Nat.le_trans hm hl')
def AtQ (J : JT) (N : Nat) (b : FB) (cs : List Frame) (FC : Frm) (ρ0 : Env) (m : Nat) (k : List Item) : QT := fun e f h =>
 (e = .normal ∧ At J N b cs FC ρ0 m k f h) ∨ (e = .ret ∧ AtE J N b cs FC ρ0 m .returning f h) ∨ ∃ v,e = .panic [{ v,recovered := false }] ∧ VOk 0 v ∧ AtE J N b cs FC ρ0 m (.panicking [{ v,recovered := false }]) f h
theorem At.pieceQ (hJ : Closed P main J) (hro : b.ro = none) {c : Code} {k : List Item} (hb : b.tag = fn) (hk : b.kind ≠ .early) (hm : m ≤ h.length) (hs : Sem J N m fn c f h (AtQ J N b cs FC ρ0 m k)) : At J N b cs FC ρ0 m (.code c :: k) f h :=
 At.pieceR hJ hro hb hk hs (Nat.le_refl _) hm fun _ _ _ q => q
end
theorem good_of_at {g : FuncId} {args : List Value} {K : Value → List AObj → Prop} {fn : Func} (hf : P.funcs[g]? = some fn) {c : Code} (hb : fn.body = some c) (hn : (fn.name == "runtime.NumGoroutine") = false) (ha : args.length ≤ fn.ntmps)
  (hs : heapOk h → ∀ (ρ : Env) (FC : Frm) (cs : List Frame) (c' : Frame),(∀ v h' ρ' w' ft' cv,K v h' → HRel ρ' h' FC w' ft' → Env.upto h.length ρ ρ' → h.length ≤ h'.length → VRel h'.length ρ' v cv → J (G (c'.finish cv) cs) w' ft') →
   At J fn.ntmps ⟨g,.normal,none,[]⟩ (c' :: cs) FC ρ h.length [.code c] ⟨regs args,[]⟩ h) : Good P J g args h K := by
 have hlt : g < P.funcs.size := (Array.getElem?_eq_some_iff.1 hf).1
 refine .inl ⟨.inl ⟨hlt,by simp [callable,hf,hb,hn]⟩,fun ρ FC w ft cs c' cargs fr H hr hl hent hc => ?_⟩
 obtain rfl : fr = Frame.enter P g ⟨cargs⟩ .normal := by
  rcases hent with ⟨_,e⟩ | ⟨hge,_⟩
  ·exact e
  ·exact absurd hlt (Nat.not_lt.2 hge)
 have he : Frame.enter P g ⟨cargs⟩ .normal = FB.at ⟨g,.normal,none,[]⟩ ⟨⟨cargs⟩ ++ Array.replicate (fn.ntmps - cargs.length) undef,[]⟩ [.code c] := by
  simp [Frame.enter,FB.at,hf,hb]
 rw [he]
 have A : ActRel h.length ρ fn.ntmps ⟨regs args,[]⟩ ⟨⟨cargs⟩ ++ Array.replicate (fn.ntmps - cargs.length) undef,[]⟩ := by
  refine ⟨fun t => ?_,by simp; omega,rfl,by simp⟩
  have := hr t
  have ht : ((⟨cargs⟩ : Array Value) ++ Array.replicate (fn.ntmps - cargs.length) undef).getD t undef = cargs.getD t undef := by
   rw [Array.getD_eq_getD_getElem?,List.getD_eq_getElem?_getD]
   by_cases hx : t < cargs.length
   ·rw [Array.getElem?_append_left (by simpa using hx)]
    simp
   ·rw [Array.getElem?_append_right (by simp; omega),List.getElem?_eq_none (by omega)]
    simp only [Array.getElem?_replicate]
    split <;> rfl
  rw [ht]
  exact this
 exact hs H.ok ρ FC cs c' hc _ ρ w ft A H (Env.upto_refl _ _) (Nat.le_refl _)
end
end Go.Proofs.YtcmgjbflljmphaaGreatDoor
