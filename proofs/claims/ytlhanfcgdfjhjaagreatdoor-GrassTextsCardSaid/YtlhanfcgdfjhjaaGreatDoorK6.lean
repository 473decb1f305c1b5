/- Parts of the proof, 6. No conditions. -/
import Derived.Lib.Index
import Derived.Lib.Bytealg
import Derived.Test.YtlhanfcgdfjhjaaGreatDoorK2
import Derived.Test.YtlhanfcgdfjhjaaGreatDoorK5
import Derived.Test.YtlhanfcgdfjhjaaGreatDoorK3
import Derived.Lib.IndexEntry
import Derived.RunT
import Derived.Lib.IndexLaws
import Derived.Test.YtlhanfcgdfjhjaaGreatDoorProg
namespace Go.Proofs.YtlhanfcgdfjhjaaGreatDoor
set_option maxRecDepth 100000
def aE (c : UInt8) : List UInt8 → List (List UInt8)
 | [] => [[]]
 | b :: s => if b = c then [] :: aE c s else match aE c s with
  | p :: l => (b :: p) :: l
  | [] => [[b]]
section
variable {c : UInt8}
theorem partsB_ne (c : UInt8) (s : List UInt8) : aE c s ≠ [] := by
 cases s with
 | nil => simp [aE]
 | cons b s =>
  unfold aE
  split
  ·simp
  ·split <;> simp
theorem partsB_cut : ∀ (p r : List UInt8),(∀ b ∈ p,b ≠ c) → aE c (p ++ c :: r) = p :: aE c r
 | [],r,_ => by simp [aE]
 | b :: p,r,h => by
  have ih := partsB_cut p r fun x hx => h x (by simp [hx])
  simp only [List.cons_append,aE]
  rw [if_neg (h b (by simp)),ih]
theorem partsB_one : ∀ p : List UInt8,(∀ b ∈ p,b ≠ c) → aE c p = [p]
 | [],_ => rfl
 | b :: p,h => by
  have ih := partsB_one p fun x hx => h x (by simp [hx])
  simp only [aE]
  rw [if_neg (h b (by simp)),ih]
theorem partsB_count : ∀ s : List UInt8,(aE c s).length = s.count c + 1
 | [] => rfl
 | b :: s => by
  have ih := partsB_count s
  unfold aE
  by_cases e : b = c
  ·rw [if_pos e]
   simp [e,ih]
  ·rw [if_neg e]
   have hb : List.count c (b :: s) = s.count c := List.count_cons_of_ne e
   rw [hb]
   split
   ·rename_i p l hp
    rw [hp] at ih
    simpa using ih
   ·rename_i hp
    exact absurd hp (partsB_ne c s)
theorem partsB_len : ∀ (s : List UInt8),∀ p ∈ aE c s,p.length ≤ s.length
 | [],p,hp => by
  simp only [aE,List.mem_singleton] at hp
  subst hp
  simp
 | b :: s,p,hp => by
  have ih := partsB_len s
  unfold aE at hp
  by_cases e : b = c
  ·rw [if_pos e] at hp
   rcases List.mem_cons.1 hp with rfl | hp
   ·simp
   ·exact Nat.le_succ_of_le (ih p hp)
  ·rw [if_neg e] at hp
   split at hp
   ·rename_i q l hq
    rcases List.mem_cons.1 hp with rfl | hp
    ·have := ih q (by rw [hq]; simp)
     simp
     omega
    ·exact Nat.le_succ_of_le (ih p (by rw [hq]; simp [hp]))
   ·rename_i hq
    exact absurd hq (partsB_ne c s)
end
def cM (b : UInt8) : Bool := decide (48 ≤ b.toNat) && decide (b.toNat ≤ 57)
def valB (d : List UInt8) : Int := d.foldl (fun n b => n * 10 + ((b.toNat : Int) - 48)) 0
def digsOk (m : Bool) (d : List UInt8) : Bool := decide (1 ≤ d.length) && decide (d.length ≤ 3) && !(d.head? == some 48 && (m || decide (1 < d.length))) && d.all cM
def joinR (sep a : List UInt8) (l : List (List UInt8)) : List UInt8 := a ++ l.flatMap (sep ++ ·)
theorem valB_snoc (l : List UInt8) (x : UInt8) : valB (l ++ [x]) = valB l * 10 + ((x.toNat : Int) - 48) := by simp [valB,List.foldl_append]
theorem isDig_iff {b : UInt8} : cM b = true ↔ 48 ≤ b.toNat ∧ b.toNat ≤ 57 := by simp [cM]
theorem valB_from : ∀ (l : List UInt8) (a : Int),0 ≤ a → l.all cM = true → 0 ≤ l.foldl (fun n b => n * 10 + ((b.toNat : Int) - 48)) a ∧ l.foldl (fun n b => n * 10 + ((b.toNat : Int) - 48)) a < (a + 1) * 10 ^ l.length
 | [],a,ha,_ => by
  simp
  omega
 | x :: l,a,ha,h => by
  rw [List.all_cons,Bool.and_eq_true,isDig_iff] at h
  obtain ⟨hx,h⟩ := h
  obtain ⟨i1,i2⟩ := valB_from l (a * 10 + ((x.toNat : Int) - 48)) (by omega) h
  rw [List.foldl_cons,List.length_cons,Int.pow_succ,Int.mul_comm (10 ^ l.length) 10,← Int.mul_assoc]
  refine ⟨i1,Int.lt_of_lt_of_le i2 (Int.mul_le_mul_of_nonneg_right (by omega) (Int.le_of_lt (Int.pow_pos (by decide))))⟩
theorem valB_bnd (l : List UInt8) (h : l.all cM = true) : 0 ≤ valB l ∧ valB l < 10 ^ l.length := by
 have := valB_from l 0 (Int.le_refl _) h
 simpa [valB] using this
theorem valB_small {l : List UInt8} (h : l.all cM = true) (hl : l.length ≤ 3) : 0 ≤ valB l ∧ valB l ≤ 999 := by
 obtain ⟨a,b⟩ := valB_bnd l h
 have : (10 : Int) ^ l.length ≤ 1000 := by
  rcases hn : l.length with _ | _ | _ | _ | n
  ·decide
  ·decide
  ·decide
  ·decide
  ·omega
 omega
theorem join_parts {c : UInt8} : ∀ (s : List UInt8) {a : List UInt8} {l : List (List UInt8)},aE c s = a :: l → s = joinR [c] a l
 | [],a,l,h => by
  simp only [aE,List.cons.injEq] at h
  obtain ⟨rfl,rfl⟩ := h
  rfl
 | b :: s,a,l,h => by
  unfold aE at h
  by_cases e : b = c
  ·rw [if_pos e] at h
   simp only [List.cons.injEq] at h
   obtain ⟨rfl,h⟩ := h
   cases l with
   | nil => exact absurd h (partsB_ne c s)
   | cons x l =>
    rw [join_parts s h,e]
    simp [joinR]
  ·rw [if_neg e] at h
   split at h
   ·rename_i p q hp
    simp only [List.cons.injEq] at h
    obtain ⟨rfl,rfl⟩ := h
    rw [join_parts s hp]
    rfl
   ·rename_i hp
    exact absurd hp (partsB_ne c s)
end Go.Proofs.YtlhanfcgdfjhjaaGreatDoor
namespace Go.Proofs.YtlhanfcgdfjhjaaGreatDoor
open Go.Conc Go.Proofs.Tryz
set_option maxRecDepth 100000
set_option maxHeartbeats 4000000
set_option linter.unusedVariables false
section
variable {main : Bool} {J : JT} {n0 : Nat} {h : List af} {K : Value → List af → Prop}
theorem at29 : prog.funcs[29]? = some f29 := by kernel_rfl
theorem body29 : f29.body = some (codeOf f29) := by kernel_rfl
def pl29 : bj := []
def ct29 : bB := .go
theorem pok29 : aC prog pl29 (codeOf f29) = true := by kernel_rfl
theorem e29 {a0 : Value} : W prog J 5 h.length 29 (codeOf f29) (RG.mk (ax [a0]) []) h (aq prog [.tmp 2] h.length K) =
(Good prog J 55 [a0] h fun v1 h2 =>
aI h.length K [] [v1] h2) := aT pok29 ct29 (by kernel_rfl)
theorem g29 (hJ : Closed prog main J) {a0 : Value} (hs : aD h → W prog J 5 h.length 29 (codeOf f29) (RG.mk (ax [a0]) []) h (aq prog [.tmp 2] h.length K)) : Good prog J 29 [a0] h K :=
 az hJ mixed at29 body29 (by kernel_rfl) (Nat.le_of_ble_eq_true rfl) hs
theorem at55 : prog.funcs[55]? = some f55 := by kernel_rfl
theorem body55 : f55.body = some (codeOf f55) := by kernel_rfl
def pl55 : bj := []
def ct55 : bB := .go
theorem pok55 : aC prog pl55 (codeOf f55) = true := by kernel_rfl
theorem e55 {a0 : Value} : W prog J 5 h.length 55 (codeOf f55) (RG.mk (ax [a0]) []) h (aq prog [.tmp 2] h.length K) =
(Good prog J 94 [a0,(ab 10)] h fun v1 h2 =>
aI h.length K [] [v1] h2) := aT pok55 ct55 (by kernel_rfl)
theorem g55 (hJ : Closed prog main J) {a0 : Value} (hs : aD h → W prog J 5 h.length 55 (codeOf f55) (RG.mk (ax [a0]) []) h (aq prog [.tmp 2] h.length K)) : Good prog J 55 [a0] h K :=
 az hJ mixed at55 body55 (by kernel_rfl) (Nat.le_of_ble_eq_true rfl) hs
theorem at94 : prog.funcs[94]? = some f94 := by kernel_rfl
theorem body94 : f94.body = some (codeOf f94) := by kernel_rfl
def pl94 : bj := []
def ct94 : bB := .bin (.go) (.bin (.bin (.go) (.bin (.bin (.bin (.go) (.cut (.go))) (.bin (.go) (.bin (.go) (.bin (.go) (.cut (.go)))))) (.go))) (.go))
theorem pok94 : aC prog pl94 (codeOf f94) = true := by kernel_rfl
abbrev w94 (J : JT) (n0 : Nat) (p : List Nat) (f : RG) (h : List af) (l : List (RG → List af → Prop)) (K : Value → List af → Prop) : Prop := W prog J 54 n0 94 (aw p (codeOf f94)) f h (aA pl94 prog J 54 n0 94 ct94 p (codeOf f94) l (aq prog [.tmp 4] n0 K))
theorem e94 {a0 a1 : Value} : W prog J 54 h.length 94 (codeOf f94) (RG.mk (ax [a0,a1]) []) h (aq prog [.tmp 4] h.length K) =
(aj prog .eql 3 a1 (ab 10) fun v1 =>
cnd v1
(aj prog .leq 2 (ab 0) a0 fun v2 =>
cnd v2
(aj prog .lss 2 a0 (ab 100) fun v3 =>
bh (w94 J h.length [1,0,1,0,0,1] (((((((((((RG.mk (ax [a0,a1]) []).p 4 (Value.string { data := #[] })).p 10 a1).p 11 v1).p 12 a0).p 13 v2).p 14 v2).p 14 (Value.bool true)).p 15 a0).p 16 v3).p 17 v3) h [] K))
(bh (w94 J h.length [1,0,1,0,0,1] (((((((((((RG.mk (ax [a0,a1]) []).p 4 (Value.string { data := #[] })).p 10 a1).p 11 v1).p 12 a0).p 13 v2).p 14 v2).p 14 (Value.bool false)).p 15 undef).p 16 undef).p 17 (Value.bool false)) h [] K)))
(aConvI .u64 a0 fun v4 =>
aj prog .lss 2 a0 (ab 0) fun v5 =>
Good prog J 109 [(Value.slice none 0 0),v4,a1,v5,(Value.bool false)] h fun v6 h7 =>
bL v6 0 fun v8 =>
bL v6 1 fun v9 =>
aI h.length K [] [v9] h7)) := aT pok94 ct94 (by kernel_rfl)
theorem g94 (hJ : Closed prog main J) {a0 a1 : Value} (hs : aD h → W prog J 54 h.length 94 (codeOf f94) (RG.mk (ax [a0,a1]) []) h (aq prog [.tmp 4] h.length K)) : Good prog J 94 [a0,a1] h K :=
 az hJ mixed at94 body94 (by kernel_rfl) (Nat.le_of_ble_eq_true rfl) hs
theorem s94_1 {f : RG} : w94 J n0 [1,0,1,0,0,1] f h [] K =
(cnd (f.r 17)
(Good prog J 106 [(f.r 0)] h fun v1 h2 =>
aI n0 K f.ds [v1] h2)
(bo [(Value.int .u8 0),(Value.int .u8 0),(Value.int .u8 0),(Value.int .u8 0),(Value.int .u8 0),(Value.int .u8 0),(Value.int .u8 0),(Value.int .u8 0),(Value.int .u8 0),(Value.int .u8 0),(Value.int .u8 0),(Value.int .u8 0),(Value.int .u8 0),(Value.int .u8 0),(Value.int .u8 0),(Value.int .u8 0),(Value.int .u8 0),(Value.int .u8 0),(Value.int .u8 0),(Value.int .u8 0),(Value.int .u8 0),(Value.int .u8 0),(Value.int .u8 0),(Value.int .u8 0)] h fun v3 h4 =>
aConvI .u64 (f.r 0) fun v5 =>
aj prog .lss 2 (f.r 0) (ab 0) fun v6 =>
cnd v6
(aUn .neg v5 fun v7 =>
bh (w94 J n0 [1,0,1,0,1,1,1,1] (((((((((f.p 5 v3).p 20 (f.r 0)).p 21 v5).p 6 v5).p 22 (f.r 0)).p 23 v6).p 24 v5).p 25 v7).p 6 v7) h4 [] K))
(bh (w94 J n0 [1,0,1,0,1,1,1,1] ((((((f.p 5 v3).p 20 (f.r 0)).p 21 v5).p 6 v5).p 22 (f.r 0)).p 23 v6) h4 [] K)))) := sub_eq pok94 ct94 (by kernel_rfl)
theorem at106 : prog.funcs[106]? = some f106 := by kernel_rfl
theorem body106 : f106.body = some (codeOf f106) := by kernel_rfl
def pl106 : bj := []
def ct106 : bB := .go
theorem pok106 : aC prog pl106 (codeOf f106) = true := by kernel_rfl
theorem e106 {a0 : Value} : W prog J 15 h.length 106 (codeOf f106) (RG.mk (ax [a0]) []) h (aq prog [.tmp 2] h.length K) =
(aj prog .lss 3 a0 (ab 10) fun v1 =>
cnd v1
(aj prog .add 3 a0 (ab 1) fun v2 =>
aZ (Value.string { data := #[48,49,50,51,52,53,54,55,56,57,97,98,99,100,101,102,103,104,105,106,107,108,109,110,111,112,113,114,115,116,117,118,119,120,121,122] }) (some a0) (some v2) fun v3 =>
aI h.length K [] [v3] h)
(aj prog .mul 3 a0 (ab 2) fun v4 =>
aj prog .mul 3 a0 (ab 2) fun v5 =>
aj prog .add 3 v5 (ab 2) fun v6 =>
aZ (Value.string { data := #[48,48,48,49,48,50,48,51,48,52,48,53,48,54,48,55,48,56,48,57,49,48,49,49,49,50,49,51,49,52,49,53,49,54,49,55,49,56,49,57,50,48,50,49,50,50,50,51,50,52,50,53,50,54,50,55,50,56,50,57,51,48,51,49,51,50,51,51,51,52,51,53,51,54,51,55,51,56,51,57,52,48,52,49,52,50,52,51,52,52,52,53,52,54,52,55,52,56,52,57,53,48,53,49,53,50,53,51,53,52,53,53,53,54,53,55,53,56,53,57,54,48,54,49,54,50,54,51,54,52,54,53,54,54,54,55,54,56,54,57,55,48,55,49,55,50,55,51,55,52,55,53,55,54,55,55,55,56,55,57,56,48,56,49,56,50,56,51,56,52,56,53,56,54,56,55,56,56,56,57,57,48,57,49,57,50,57,51,57,52,57,53,57,54,57,55,57,56,57,57] }) (some v4) (some v6) fun v7 =>
aI h.length K [] [v7] h)) := aT pok106 ct106 (by kernel_rfl)
theorem g106 (hJ : Closed prog main J) {a0 : Value} (hs : aD h → W prog J 15 h.length 106 (codeOf f106) (RG.mk (ax [a0]) []) h (aq prog [.tmp 2] h.length K)) : Good prog J 106 [a0] h K :=
 az hJ mixed at106 body106 (by kernel_rfl) (Nat.le_of_ble_eq_true rfl) hs
end
end Go.Proofs.YtlhanfcgdfjhjaaGreatDoor
namespace Go.Proofs.YtlhanfcgdfjhjaaGreatDoor
open Go.Conc Go.Proofs.Tryz
set_option maxRecDepth 100000
def num2 (n : Nat) : List UInt8 := if n < 10 then [UInt8.ofNat (48 + n)] else [UInt8.ofNat (48 + n / 10),UInt8.ofNat (48 + n % 10)]
theorem num2_len (n : Nat) : (num2 n).length ≤ 2 ∧ 0 < (num2 n).length := by
 unfold num2
 split <;> simp
section
variable {main : Bool} {J : JT} {h H : List af} {K : Value → List af → Prop} {KV : Value → Prop}
theorem slC {s u : List UInt8} {lo hi : Int} (h : 0 ≤ lo ∧ lo ≤ hi ∧ hi ≤ s.length) (hu : (s.take hi.toNat).drop lo.toNat = u) (hk : KV (ay u)) : aZ (ay s) (some (ab lo)) (some (ab hi)) KV := by
 subst hu
 show match (bif decide ((0 : Int) ≤ lo) then some lo.toNat else none),(bif decide ((0 : Int) ≤ hi) then some hi.toNat else none) with
  | some l,some u => (l ≤ u ∧ u ≤ s.length) ∧ KV (.string ⟨⟨(s.take u).drop l⟩⟩)
  | _,_ => False
 rw [decide_eq_true h.1,decide_eq_true (by omega : (0 : Int) ≤ hi),cond_true,cond_true]
 exact ⟨⟨by omega,by omega⟩,hk⟩
theorem dw {t : TypeId} {u v : List UInt8} (hl : u.length + v.length ≤ 1000000) (hk : KV (ay (u ++ v))) : aj prog .add t (ay u) (ay v) KV := by
 have hrm : (2000000 : Nat) < room := by decide
 show (ByteArray.mk ⟨u⟩).size + (ByteArray.mk ⟨v⟩).size ≤ room ∧ KV (.string (ByteArray.mk ⟨u⟩ ++ ByteArray.mk ⟨v⟩))
 have e1 : (ByteArray.mk ⟨v⟩).size = v.length := rfl
 have e2 : (ByteArray.mk ⟨u⟩).size = u.length := rfl
 have e3 : ByteArray.mk ⟨u⟩ ++ ByteArray.mk ⟨v⟩ = ByteArray.mk ⟨u ++ v⟩ := by
  apply ByteArray.ext
  rw [ByteArray.data_append]
  apply Array.ext'
  rw [Array.toList_append]
 rw [e1,e2,e3]
 exact ⟨by omega,hk⟩
def digs : List UInt8 := [48,49,50,51,52,53,54,55,56,57,97,98,99,100,101,102,103,104,105,106,107,108,109,110,111,112,113,114,115,116,117,118,119,120,121,122]
def pairs : List UInt8 := (List.range 100).flatMap fun n => [UInt8.ofNat (48 + n / 10),UInt8.ofNat (48 + n % 10)]
theorem digs_at : ∀ n ∈ List.range 10,(digs.take (n + 1)).drop n = num2 n := of_decide_eq_true (by kernel_rfl)
theorem pairs_at : ∀ n ∈ List.range 100,n < 10 ∨ (pairs.take (n * 2 + 2)).drop (n * 2) = num2 n := of_decide_eq_true (by kernel_rfl)
theorem pairs_len : pairs.length = 200 := by kernel_rfl
theorem sml_form (n : Int) : W prog J 15 H.length 106 (codeOf f106) (RG.mk (ax [ab n]) []) H (aq prog [.tmp 2] H.length K) =
  aj prog .lss 3 (ab n) (ab 10) fun v1 => cnd v1 (aj prog .add 3 (ab n) (ab 1) fun v2 => aZ (ay digs) (some (ab n)) (some v2) fun v3 => aI H.length K [] [v3] H)
   (aj prog .mul 3 (ab n) (ab 2) fun v4 => aj prog .mul 3 (ab n) (ab 2) fun v5 => aj prog .add 3 v5 (ab 2) fun v6 => aZ (ay pairs) (some v4) (some v6) fun v7 => aI H.length K [] [v7] H) := by
 rw [e106]
 kernel_rfl
theorem good106 (hJ : Closed prog main J) {n : Nat} (hn : n < 100) (hK : K (ay (num2 n)) H) : Good prog J 106 [ab n] H K := by
 refine g106 hJ fun _ => ?_
 rw [sml_form]
 refine dh (ba (fun h => ?_) fun h => ?_)
 ·have h10 : n < 10 := by omega
  refine ck (by omega) (slC (u := num2 n) (by rw [show digs.length = 36 from rfl]; omega) ?_ (ao (by simp [unk,ay]) hK))
  have := digs_at n (List.mem_range.2 h10)
  rw [show ((n : Int) + 1).toNat = n + 1 by omega,show ((n : Int)).toNat = n by omega]
  exact this
 ·have h10 : ¬ n < 10 := by omega
  refine mulI (by omega) (mulI (by omega) (ck (by omega) (slC (u := num2 n) (by rw [pairs_len]; omega) ?_ (ao (by simp [unk,ay]) hK))))
  have := (pairs_at n (List.mem_range.2 hn)).resolve_left h10
  rw [show ((n : Int) * 2 + 2).toNat = n * 2 + 2 by omega,show ((n : Int) * 2).toNat = n * 2 by omega]
  exact this
theorem good29 (hJ : Closed prog main J) {n : Nat} (hn : n < 100) (hK : K (ay (num2 n)) H) : Good prog J 29 [ab n] H K := by
 refine g29 hJ fun _ => ?_
 rw [e29]
 refine g55 hJ fun _ => ?_
 rw [e55]
 refine g94 hJ fun _ => ?_
 rw [e94]
 refine eqlI (ba (fun _ => leqI (ba (fun _ => dh (hold.2 ?_)) fun h => absurd (Int.natCast_nonneg n) h)) fun h => absurd rfl h)
 rw [s94_1]
 show cnd (.bool (decide ((n : Int) < 100))) _ _
 refine ba (fun _ => ?_) fun h => absurd (by omega : (n : Int) < 100) h
 show Good prog J 106 [ab n] _ _
 refine good106 hJ hn ?_
 refine ao (by simp [unk,ay]) ?_
 refine ao (by simp [unk,ay,pack]) ?_
 exact ao (by simp [unk,ay,pack]) hK
end
end Go.Proofs.YtlhanfcgdfjhjaaGreatDoor
namespace Go.Proofs.YtlhanfcgdfjhjaaGreatDoor
set_option maxRecDepth 100000
def unsB (s : List UInt8) : Option Int := if digsOk false s then some (valB s) else none
def cY : List (List UInt8) → List (List UInt8) → Option (List Int)
 | [],[] => some []
 | n :: ns,a :: b :: w => if a = n then (unsB b).bind fun x => (cY ns w).map (x :: ·) else none
 | _,_ => none
def gN : Nat → List (List UInt8)
 | 0 => [[103,114,97,115,115],[111,102],[103,114,111,119,115],[116,111]]
 | 1 => [[98,101,108,111,119],[115,108,101,101,112,115]]
 | _ => [[115,107,121],[100,114,121],[119,101,116]]
def dY (i : Nat) (L : List (List UInt8)) : Option (List Int) := if i + 1 < L.length then cY (gN i) (aE 32 (L.getD i [])) else none
def readG (s : List UInt8) : Nat ⊕ List Int :=
 match dY 0 (aE 10 s) with
 | none => .inl 1
 | some a => match dY 1 (aE 10 s) with
  | none => .inl 2
  | some b => match dY 2 (aE 10 s) with
   | none => .inl 3
   | some c => if (aE 10 s).length = 4 ∧ (aE 10 s)[3]? = some [] then .inr (a ++ (b ++ c)) else .inl 4
def pasX (l : List Int) : Pas := ⟨l.getD 0 0,l.getD 1 0,l.getD 2 0,l.getD 3 0,l.getD 4 0,l.getD 5 0⟩
def skyX (l : List Int) : aU := ⟨l.getD 6 0,l.getD 7 0,l.getD 8 0⟩
def pasN : Pas := ⟨0,0,0,0,0,0⟩
def skyN : aU := ⟨0,0,0⟩
def ca (s : List UInt8) : Int × Int :=
 if 120 < s.length then (0,10) else match readG s with
  | .inl i => ((i : Nat),2)
  | .inr l => (0,cQ (bR (pasX l)) (cd (skyX l)))
def readGP (s : List UInt8) : Pas × aU :=
 if (ca s).2 = 0 then (match readG s with
  | .inr l => (pasX l,skyX l)
  | .inl _ => (pasN,skyN)) else (pasN,skyN)
theorem fillW_len : ∀ {ns w : List (List UInt8)} {xs : List Int},cY ns w = some xs → w.length = 2 * ns.length ∧ xs.length = ns.length
 | [],[],xs,h => by
  cases h
  exact ⟨rfl,rfl⟩
 | [],_ :: _,xs,h => by cases h
 | _ :: _,[],xs,h => by cases h
 | _ :: _,[_],xs,h => by cases h
 | n :: ns,a :: b :: w,xs,h => by
  have h : (if a = n then (unsB b).bind fun x => (cY ns w).map (x :: ·) else none) = some xs := h
  split at h
  ·obtain ⟨x,_,h⟩ := Option.bind_eq_some_iff.1 h
   obtain ⟨y,hy,rfl⟩ := Option.map_eq_some_iff.1 h
   obtain ⟨h1,h2⟩ := fillW_len hy
   simp only [List.length_cons]
   omega
  ·cases h
theorem fillW_step {ns w : List (List UInt8)} {i : Nat} {nm a b : List UInt8} (h1 : ns[i]? = some nm) (h2 : w[2 * i]? = some a) (h3 : w[2 * i + 1]? = some b) :
  cY (ns.drop i) (w.drop (2 * i)) = if a = nm then (unsB b).bind fun x => (cY (ns.drop (i + 1)) (w.drop (2 * (i + 1)))).map (x :: ·) else none := by
 obtain ⟨l1,rfl⟩ := List.getElem?_eq_some_iff.1 h1
 obtain ⟨l2,rfl⟩ := List.getElem?_eq_some_iff.1 h2
 obtain ⟨l3,rfl⟩ := List.getElem?_eq_some_iff.1 h3
 rw [List.drop_eq_getElem_cons l1,List.drop_eq_getElem_cons l2,List.drop_eq_getElem_cons l3]
 rfl
def wordsP : List (List UInt8) → List Int → List (List UInt8)
 | n :: ns,x :: xs => n :: num2 x.toNat :: wordsP ns xs
 | _,_ => []
def lineP (ns : List (List UInt8)) (xs : List Int) : List UInt8 :=
 match wordsP ns xs with
 | a :: l => joinR [32] a l
 | [] => []
def linesP (p : Pas) (s : aU) : List (List UInt8) := [lineP (gN 0) [p.grass,p.bears,p.dry,p.wet],lineP (gN 1) [p.stubble,p.sleep],lineP (gN 2) [s.days,s.drought,s.flood]]
def textP (p : Pas) (s : aU) : List UInt8 := (linesP p s).flatMap (· ++ [10])
theorem lineG_some {i : Nat} {L : List (List UInt8)} {xs : List Int} (h : dY i L = some xs) : i + 1 < L.length ∧ cY (gN i) (aE 32 (L.getD i [])) = some xs := by
 unfold dY at h
 split at h
 ·exact ⟨by assumption,h⟩
 ·cases h
theorem num2_short (n : Nat) : (num2 n).length ≤ 2 := (num2_len n).1
theorem textP_len (p : Pas) (s : aU) : (textP p s).length ≤ 110 := by
 have a := fun x : Int => num2_short x.toNat
 have a0 := a p.grass
 have a1 := a p.bears
 have a2 := a p.dry
 have a3 := a p.wet
 have a4 := a p.stubble
 have a5 := a p.sleep
 have a6 := a s.days
 have a7 := a s.drought
 have a8 := a s.flood
 simp [textP,linesP,lineP,wordsP,gN,joinR]
 omega
end Go.Proofs.YtlhanfcgdfjhjaaGreatDoor
namespace Go.Proofs.YtlhanfcgdfjhjaaGreatDoor
open Go.Conc
section
variable {P : Program} {main : Bool} {J : JT} {g : FuncId} {fn : Func}
theorem bC.choose {q : Question} {w : World} (hq : q.forced = false) : ∃ T d,bC P (Go.choose q) w (q.cut T) { w with drawn := d } [] := by
 refine ⟨w.tape w.drawn q,w.drawn + 1,fun acc => ?_⟩
 unfold Go.choose
 unfold Sem.runT
 rw [hq]
 simp
theorem bC.underlying {t : TypeId} {d : TypeDesc} {w : World} (hu : P.underlying t = some d) : bC P (Go.underlying t) w d w [] := by
 unfold Go.underlying
 refine bC.bind (e1 := []) (e2 := []) bC.program ?_
 simp only [hu]
 exact bC.pure
end
section
variable {H : List af} {KV : Value → Prop}
theorem di {s : List UInt8} (hk : KV (ab s.length)) : bA (ay s) KV := hk
theorem ldT {b o s : Nat} {c : List Value} {own row : Bool} {t : Nat} {v : Value} (hb : H[b]? = some (.typed own t c row)) (hv : c[o]? = some v) (hn : kn1 v = true) (hk : KV v) : ai false s (ptr b o) H KV := by
 show (match H[b]? with
  | some (.cells c _ _) => bif false then o + s ≤ c.length ∧ kn ((c.drop o).take s) = true ∧ KV (.agg ⟨(c.drop o).take s⟩) else match c[o]? with
   | some v => kn1 v = true ∧ KV v
   | none => False
  | some (.typed _ _ c _) => bif false then o + s ≤ c.length ∧ kn ((c.drop o).take s) = true ∧ KV (.agg ⟨(c.drop o).take s⟩) else match c[o]? with
   | some v => kn1 v = true ∧ KV v
   | none => False
  | _ => False)
 rw [hb]
 simp only [cond_false,hv]
 exact ⟨hn,hk⟩
end
section
variable {P : Program} {main : Bool} {J : JT} {g : FuncId} {fn : Func} {h : List af} {K : Value → List af → Prop}
theorem good_run (hJ : Closed P main J) {e : Array Value → Go.Sem Value} (E : IsExt P g fn e) {args : List Value}
  (hrun : ∀ (ρ : Env) (FC : Frm) (w : World) (ft : aJ) (cargs : List Value),aN ρ h FC w ft → (∀ i : Nat,cS h.length ρ (args.getD i unk) (cargs.getD i undef)) → cargs.length = args.length →
   aa P (bp ft) (e ⟨cargs⟩) w fun cv w' => ∃ v h' ρ',K v h' ∧ bM ρ h FC w ft ρ' h' w' ∧ cS h'.length ρ' v cv) : Good P J g args h K :=
 .inr ⟨E.not,fun b a ops i rest o k cs ρ FC w ft cargs S H hr hl hc => hJ.step rfl fun w₁ h₁ => by
  have H₁ := H.rely h₁
  have hcall : aa P (bp ft) (callFunc g ⟨cargs⟩) w₁ fun nx w' => ∃ cv v h' ρ',nx = .value cv ∧ K v h' ∧ bM ρ h FC w₁ ft ρ' h' w' ∧ cS h'.length ρ' v cv := by
   unfold callFunc
   refine aa.bind (aa.program ?_)
   simp only [E.here,E.name,E.body,E.next,E.find]
   refine aa.bind (aa.mark trivial ?_)
   refine aa.bind ((hrun ρ FC w₁ ft cargs H₁ hr hl).mono fun cv w' ⟨v,h',ρ',k1,k2,k3⟩ => aa.pure ⟨cv,v,h',ρ',rfl,k1,k2,k3⟩)
  obtain ⟨nx,w',es,hr2,he,cv,v,h',ρ',rfl,hK,g',hv⟩ := hcall #[] (by simp)
  have hes : ∀ e ∈ seen P b.fn es,bp ft e := fun e hm => he e (mem_seen hm)
  have hf := FB.finish_at b a ops i rest k cv
  rw [S.here] at hf
  simp only [Option.bind_some] at hf
  have hk' : (b.kind == CallKind.early) = false := by simpa using S.kind
  refine ⟨G (b.at (a.put o.dst cv) (.inRegion ops rest :: k)) cs,w',seen P b.fn es,?_,rfl,g'.stays.guar hes,?_⟩
  ·rw [stepG_op S.here S.wanted S.nodef,← hf]
   simp only [stepG.apply,(S.calls w₁).trans hr2,if_true]
   simp [G,FB.at,hk',GStep.after]
  ·exact hc v h' ρ' w' _ cv hK g'.rel g'.upto g'.len hv⟩
theorem good_plain (hJ : Closed P main J) {e : Array Value → Go.Sem Value} (E : IsExt P g fn e) {args : List Value} {v : Value} (hv : VOk 0 v) (hren : ∀ ρ,ren ρ v = v)
  (hrun : ∀ (ρ : Env) (FC : Frm) (w : World) (ft : aJ) (cargs : List Value),aN ρ h FC w ft → (∀ i : Nat,cS h.length ρ (args.getD i unk) (cargs.getD i undef)) → cargs.length = args.length → bC P (e ⟨cargs⟩) w v w []) (hK : K v h) : Good P J g args h K :=
 good_run hJ E fun ρ FC w ft cargs H hr hl es he => by
  refine ⟨v,w,es,?_,he,v,h,ρ,hK,bM.refl H,.inr ⟨VOk.mono (Nat.zero_le _) _ hv,(hren ρ).symm⟩⟩
  simpa using hrun ρ FC w ft cargs H hr hl es
theorem arg_str {n : Nat} {ρ : Env} {s : ByteArray} {c : Value} (h : cS n ρ (.string s) c) : c = .string s := by
 rcases h with e | ⟨_,e⟩
 ·cases e
 ·simpa [ren] using e
theorem arg_int {n : Nat} {ρ : Env} {k : IntKind} {i : Int} {c : Value} (h : cS n ρ (.int k i) c) : c = .int k i := by
 rcases h with e | ⟨_,e⟩
 ·cases e
 ·simpa [ren] using e
theorem good_count (hJ : Closed P main J) (E : IsExt P g fn Extern.BytealgCount.count) {s : List UInt8} {c : UInt8} (hK : K (.int .i64 (s.count c : Nat)) h) : Good P J g [.string ⟨⟨s⟩⟩,.int .u8 c.toNat] h K :=
 good_plain hJ E (by simp [VOk]) (fun ρ => by simp [ren]) (fun ρ FC w ft cargs H hr hl => by
  match cargs,hl with
  | [a,b],_ =>
   obtain rfl := arg_str (hr 0)
   obtain rfl := arg_int (hr 1)
   refine bC.of ?_ fun acc => ?_
   ·rw [show (⟨[.string ⟨⟨s⟩⟩,.int .u8 c.toNat]⟩ : Array Value) = #[.string ⟨⟨s⟩⟩,.int .u8 c.toNat] from rfl,Lib.run_countString]
    simp [Lib.countByte]
   ·change Sem.events P (do
     let b ← Extern.Bytes.bytesOf (.string ⟨⟨s⟩⟩)
     let c' ← Extern.Bytes.asByte (.int .u8 c.toNat)
     pure (goInt (b.foldl (fun n x => if x == c' then n + 1 else n) (0 : Nat)))) w acc = _
    simp [Extern.Bytes.bytesOf,Extern.Bytes.asByte]) hK
theorem good_idxB (hJ : Closed P main J) (E : IsExt P g fn Extern.BytealgIndexByte.indexByte) {s : List UInt8} {c : UInt8} (hK : K (.int .i64 (Lib.indexByte s c)) h) : Good P J g [.string ⟨⟨s⟩⟩,.int .u8 c.toNat] h K :=
 good_plain hJ E (by simp [VOk]) (fun ρ => by simp [ren]) (fun ρ FC w ft cargs H hr hl => by
  match cargs,hl with
  | [a,b],_ =>
   obtain rfl := arg_str (hr 0)
   obtain rfl := arg_int (hr 1)
   refine bC.of ?_ fun acc => ?_
   ·rw [show (⟨[.string ⟨⟨s⟩⟩,.int .u8 c.toNat]⟩ : Array Value) = #[.string ⟨⟨s⟩⟩,.int .u8 c.toNat] from rfl,Lib.run_indexByteString]
    simp
   ·change Sem.events P (do
     let b ← Extern.Bytes.bytesOf (.string ⟨⟨s⟩⟩)
     let c' ← Extern.Bytes.asByte (.int .u8 c.toNat)
     match (List.range b.size).find? fun i => b[i]! == c' with
     | some i => pure (goInt i)
     | none => pure (goInt (-1))) w acc = _
    simp only [Extern.Bytes.bytesOf,Extern.Bytes.asByte,Sem.events_bind,Sem.run_pure,Sem.events_pure,Result.evThen]
    split <;> simp) hK
end
end Go.Proofs.YtlhanfcgdfjhjaaGreatDoor
namespace Go.Proofs.YtlhanfcgdfjhjaaGreatDoor
open Go.Conc Go.Proofs.Tryz
set_option maxRecDepth 100000
set_option maxHeartbeats 4000000
set_option linter.unusedVariables false
section
variable {main : Bool} {J : JT} {n0 : Nat} {h : List af} {K : Value → List af → Prop}
theorem at110 : prog.funcs[110]? = some f110 := by kernel_rfl
theorem body110 : f110.body = some (codeOf f110) := by kernel_rfl
def pl110 : bj := []
def ct110 : bB := .bin (.go) (.bin (.go) (.bin (.go) (.bin (.go) (.cut (.go)))))
theorem pok110 : aC prog pl110 (codeOf f110) = true := by kernel_rfl
abbrev w110 (J : JT) (n0 : Nat) (p : List Nat) (f : RG) (h : List af) (l : List (RG → List af → Prop)) (K : Value → List af → Prop) : Prop := W prog J 66 n0 110 (aw p (codeOf f110)) f h (aA pl110 prog J 66 n0 110 ct110 p (codeOf f110) l (aq prog [.tmp 8] n0 K))
theorem e110 {a0 a1 a2 a3 : Value} : W prog J 66 h.length 110 (codeOf f110) (RG.mk (ax [a0,a1,a2,a3]) []) h (aq prog [.tmp 8] h.length K) =
(aj prog .eql 3 a3 (ab 0) fun v1 =>
cnd v1
(aI h.length K [] [(Value.slice none 0 0)] h)
(aj prog .eql 9 a1 (Value.string { data := #[] }) fun v2 =>
cnd v2
(Good prog J 117 [a0,a3] h fun v3 h4 =>
aI h.length K [] [v3] h4)
(aj prog .lss 3 a3 (ab 0) fun v5 =>
cnd v5
(Good prog J 118 [a0,a1] h fun v6 h7 =>
aj prog .add 3 v6 (ab 1) fun v8 =>
bh (w110 J h.length [1,1,1,1] (((((((((((((RG.mk (ax [a0,a1,a2,a3]) []).p 8 (Value.slice none 0 0)).p 12 a3).p 13 v1).p 14 a1).p 15 v2).p 19 a3).p 20 v5).p 21 a0).p 22 a1).p 23 v6).p 24 v8).p 3 v8) h7 [] K))
(bh (w110 J h.length [1,1,1,1] ((((((((RG.mk (ax [a0,a1,a2,a3]) []).p 8 (Value.slice none 0 0)).p 12 a3).p 13 v1).p 14 a1).p 15 v2).p 19 a3).p 20 v5) h [] K))))) := aT pok110 ct110 (by kernel_rfl)
theorem g110 (hJ : Closed prog main J) {a0 a1 a2 a3 : Value} (hs : aD h → W prog J 66 h.length 110 (codeOf f110) (RG.mk (ax [a0,a1,a2,a3]) []) h (aq prog [.tmp 8] h.length K)) : Good prog J 110 [a0,a1,a2,a3] h K :=
 az hJ mixed at110 body110 (by kernel_rfl) (Nat.le_of_ble_eq_true rfl) hs
theorem s110_1 {f : RG} : w110 J n0 [1,1,1,1] f h [] K =
(bA (f.r 0) fun v1 =>
aj prog .add 3 v1 (ab 1) fun v2 =>
aMin (f.r 3) [v2] fun v3 =>
((List.length [(Value.string { data := #[] })] = 1 ∧ (16 : Nat) ≤ 1024) ∧ aMkS [(Value.string { data := #[] })] v3 v3 h fun v4 h5 =>
aj prog .sub 3 v3 (ab 1) fun v6 =>
Sem J 66 n0 110 (aw yp25 (codeOf f110)) (((((((((((((f.p 25 (f.r 3)).p 26 (f.r 0)).p 27 v1).p 28 v2).p 29 v3).p 3 v3).p 30 v3).p 31 v4).p 9 v4).p 32 v3).p 33 v6).p 3 v6).p 10 (ab 0)) h5 (aA pl110 prog J 66 n0 110 ct110 yp25 (codeOf f110) [] (aq prog [.tmp 8] n0 K)))) := sub_eq pok110 ct110 (by kernel_rfl)
theorem s110_2 {f : RG} {nx0 : RG → List af → Prop} : W prog J 66 n0 110 (aw [1,1,1,1,1,1,1,1,0,0,0] (codeOf f110)) f h (bc nx0 (aA pl110 prog J 66 n0 110 ct110 yp25 (codeOf f110) [] (aq prog [.tmp 8] n0 K))) =
(aj prog .lss 3 (f.r 10) (f.r 3) fun v1 =>
cnd v1
(Good prog J 119 [(f.r 0),(f.r 1)] h fun v2 h3 =>
aj prog .lss 3 v2 (ab 0) fun v4 =>
cnd v4
(bT 1 (f.r 9) (f.r 10) fun v5 =>
aB 1 v5 (f.r 0) h3 fun h6 =>
aj prog .add 3 (f.r 10) (ab 1) fun v7 =>
aSl2 1 (f.r 9) none (some v7) h6 fun v8 =>
aI n0 K f.ds [v8] h6)
(aj prog .add 3 v2 (f.r 2) fun v9 =>
aZ (f.r 0) none (some v9) fun v10 =>
bT 1 (f.r 9) (f.r 10) fun v11 =>
aB 1 v11 v10 h3 fun h12 =>
bA (f.r 1) fun v13 =>
aj prog .add 3 v2 v13 fun v14 =>
aZ (f.r 0) (some v14) none fun v15 =>
aj prog .add 3 (f.r 10) (ab 1) fun v16 =>
nx0 (((((((((((((((((((((((((((f.p 34 (f.r 10)).p 35 (f.r 3)).p 36 v1).p 37 (f.r 0)).p 38 (f.r 1)).p 39 v2).p 11 v2).p 40 v2).p 41 v4).p 42 (f.r 9)).p 43 (f.r 10)).p 44 (f.r 0)).p 45 v2).p 46 (f.r 2)).p 47 v9).p 48 v10).p 49 v11).p 50 (f.r 0)).p 51 v2).p 52 (f.r 1)).p 53 v13).p 54 v14).p 55 v15).p 0 v15).p 56 (f.r 10)).p 57 v16).p 10 v16) h12))
(bT 1 (f.r 9) (f.r 10) fun v17 =>
aB 1 v17 (f.r 0) h fun h18 =>
aj prog .add 3 (f.r 10) (ab 1) fun v19 =>
aSl2 1 (f.r 9) none (some v19) h18 fun v20 =>
aI n0 K f.ds [v20] h18)) := sub_eq pok110 ct110 (by kernel_rfl)
theorem l110_2 (hJ : Closed prog main J) {S : Type} (μ : S → Nat) (I : S → RG → List af → Prop) (hI : ∀ s f h,I s f h → aD h → n0 ≤ h.length → W prog J 66 n0 110 (aw [1,1,1,1,1,1,1,1,0,0,0] (codeOf f110)) f h (bc (Nx n0 μ I s) (aA pl110 prog J 66 n0 110 ct110 yp25 (codeOf f110) [] (aq prog [.tmp 8] n0 K))))
 {s : S} {f : RG} (hi : dJ n0 I s f h) : Sem J 66 n0 110 (aw yp25 (codeOf f110)) f h (aA pl110 prog J 66 n0 110 ct110 yp25 (codeOf f110) [] (aq prog [.tmp 8] n0 K)) :=
 bn hJ mixed (b := aw [1,1,1,1,1,1,1,1,0,0,0] (codeOf f110)) (by kernel_rfl) μ I hI hi
theorem at95 : prog.funcs[95]? = some f95 := by kernel_rfl
theorem body95 : f95.body = some (codeOf f95) := by kernel_rfl
def pl95 : bj := []
def ct95 : bB := .go
theorem pok95 : aC prog pl95 (codeOf f95) = true := by kernel_rfl
theorem e95 {a0 a1 : Value} : W prog J 8 h.length 95 (codeOf f95) (RG.mk (ax [a0,a1]) []) h (aq prog [.tmp 4] h.length K) =
(Good prog J 110 [a0,a1,(ab 0),(ab (-1))] h fun v1 h2 =>
aI h.length K [] [v1] h2) := aT pok95 ct95 (by kernel_rfl)
theorem g95 (hJ : Closed prog main J) {a0 a1 : Value} (hs : aD h → W prog J 8 h.length 95 (codeOf f95) (RG.mk (ax [a0,a1]) []) h (aq prog [.tmp 4] h.length K)) : Good prog J 95 [a0,a1] h K :=
 az hJ mixed at95 body95 (by kernel_rfl) (Nat.le_of_ble_eq_true rfl) hs
theorem at118 : prog.funcs[118]? = some f118 := by kernel_rfl
theorem body118 : f118.body = some (codeOf f118) := by kernel_rfl
def pl118 : bj := []
def ct118 : bB := .go
theorem pok118 : aC prog pl118 (codeOf f118) = true := by kernel_rfl
theorem e118 {a0 a1 : Value} : W prog J 34 h.length 118 (codeOf f118) (RG.mk (ax [a0,a1]) []) h (aq prog [.tmp 4] h.length K) =
(bA a1 fun v1 =>
aj prog .eql 3 v1 (ab 0) fun v2 =>
cnd v2
(Good prog J 126 [a0] h fun v3 h4 =>
aj prog .add 3 v3 (ab 1) fun v5 =>
aI h.length K [] [v5] h4)
(bA a1 fun v6 =>
aj prog .eql 3 v6 (ab 1) fun v7 =>
cnd v7
(bX a1 (ab 0) fun v8 =>
Good prog J 128 [a0,v8] h fun v9 h10 =>
aI h.length K [] [v9] h10)
(Sem J 34 h.length 118 (aw [1,1,1,1,0] (codeOf f118)) (((((((((RG.mk (ax [a0,a1]) []).p 4 (ab 0)).p 7 a1).p 8 v1).p 9 v2).p 13 a1).p 14 v6).p 15 v7).p 5 (ab 0)) h (aA pl118 prog J 34 h.length 118 ct118 [1,1,1,1,0] (codeOf f118) [] (aq prog [.tmp 4] h.length K))))) := aT pok118 ct118 (by kernel_rfl)
theorem g118 (hJ : Closed prog main J) {a0 a1 : Value} (hs : aD h → W prog J 34 h.length 118 (codeOf f118) (RG.mk (ax [a0,a1]) []) h (aq prog [.tmp 4] h.length K)) : Good prog J 118 [a0,a1] h K :=
 az hJ mixed at118 body118 (by kernel_rfl) (Nat.le_of_ble_eq_true rfl) hs
theorem at119 : prog.funcs[119]? = some f119 := by kernel_rfl
theorem body119 : f119.body = some (codeOf f119) := by kernel_rfl
def pl119 : bj := []
def ct119 : bB := .go
theorem pok119 : aC prog pl119 (codeOf f119) = true := by kernel_rfl
theorem e119 {a0 a1 : Value} : W prog J 8 h.length 119 (codeOf f119) (RG.mk (ax [a0,a1]) []) h (aq prog [.tmp 4] h.length K) =
(Good prog J 111 [a0,a1] h fun v1 h2 =>
aI h.length K [] [v1] h2) := aT pok119 ct119 (by kernel_rfl)
theorem g119 (hJ : Closed prog main J) {a0 a1 : Value} (hs : aD h → W prog J 8 h.length 119 (codeOf f119) (RG.mk (ax [a0,a1]) []) h (aq prog [.tmp 4] h.length K)) : Good prog J 119 [a0,a1] h K :=
 az hJ mixed at119 body119 (by kernel_rfl) (Nat.le_of_ble_eq_true rfl) hs
theorem at111 : prog.funcs[111]? = some f111 := by kernel_rfl
theorem body111 : f111.body = some (codeOf f111) := by kernel_rfl
def pl111 : bj := []
def ct111 : bB := .bin (.go) (.bin (.go) (.bin (.un (.bin (.go) (.cut (.bin (.go) (.bin (.go) (.bin (.go) (.bin (.go) (.bin (.go) (.bin (.go) (.cut (.go))))))))))) (.bin (.go) (.bin (.go) (.bin (.go) (.bin (.go) (.bin (.go) (.bin (.un (.un (.bin (.go) (.un (.bin (.go) (.cut (.bin (.bin (.go) (.cut (.go))) (.bin (.go) (.bin (.go) (.bin (.go) (.cut (.bin (.go) (.bin (.go) (.cut (.go))))))))))))))) (.go)))))))))
theorem pok111 : aC prog pl111 (codeOf f111) = true := by kernel_rfl
abbrev w111 (J : JT) (n0 : Nat) (p : List Nat) (f : RG) (h : List af) (l : List (RG → List af → Prop)) (K : Value → List af → Prop) : Prop := W prog J 143 n0 111 (aw p (codeOf f111)) f h (aA pl111 prog J 143 n0 111 ct111 p (codeOf f111) l (aq prog [.tmp 4] n0 K))
theorem e111 {a0 a1 : Value} : W prog J 143 h.length 111 (codeOf f111) (RG.mk (ax [a0,a1]) []) h (aq prog [.tmp 4] h.length K) =
(bA a1 fun v1 =>
aj prog .eql 3 v1 (ab 0) fun v2 =>
cnd v2
(bh (w111 J h.length [1,1,0,0,1] ((((((((((((((RG.mk (ax [a0,a1]) []).p 4 (ab 0)).p 14 a1).p 15 v1).p 5 v1).p 17 v1).p 18 v2).p 19 v2).p 19 (Value.bool true)).p 20 undef).p 21 undef).p 22 undef).p 23 (Value.bool true)).p 16 (Value.bool true)) h [] K))
(aj prog .eql 9 a1 a0 fun v3 =>
bh (w111 J h.length [1,1,0,0,1] ((((((((((((((RG.mk (ax [a0,a1]) []).p 4 (ab 0)).p 14 a1).p 15 v1).p 5 v1).p 17 v1).p 18 v2).p 19 v2).p 19 (Value.bool false)).p 20 a1).p 21 a0).p 22 v3).p 23 v3).p 16 v3) h [] K))) := aT pok111 ct111 (by kernel_rfl)
theorem g111 (hJ : Closed prog main J) {a0 a1 : Value} (hs : aD h → W prog J 143 h.length 111 (codeOf f111) (RG.mk (ax [a0,a1]) []) h (aq prog [.tmp 4] h.length K)) : Good prog J 111 [a0,a1] h K :=
 az hJ mixed at111 body111 (by kernel_rfl) (Nat.le_of_ble_eq_true rfl) hs
theorem s111_1 {f : RG} : w111 J n0 [1,1,0,0,1] f h [] K =
(cnd (f.r 16)
(aI n0 K f.ds [(ab 0)] h)
(aj prog .eql 3 (f.r 5) (ab 1) fun v1 =>
cnd v1
(bX (f.r 1) (ab 0) fun v2 =>
Good prog J 120 [(f.r 0),v2] h fun v3 h4 =>
aI n0 K f.ds [v3] h4)
(bA (f.r 0) fun v5 =>
aj prog .geq 3 (f.r 5) v5 fun v6 =>
cnd v6
(aI n0 K f.ds [(ab (-1))] h)
(ai false 1 (gv h 2) h fun v7 =>
aj prog .leq 3 (f.r 5) v7 fun v8 =>
cnd v8
(bA (f.r 0) fun v9 =>
aj prog .leq 3 v9 (ab 64) fun v10 =>
bh (w111 J n0 [1,1,0,0,1,1,1,1,1,1,1] ((((((((((((((((((f.p 25 (f.r 5)).p 26 v1).p 24 v1).p 32 (f.r 5)).p 33 (f.r 0)).p 34 v5).p 35 v6).p 31 v6).p 37 (f.r 5)).p 38 v7).p 39 v8).p 40 v8).p 40 (Value.bool true)).p 41 (f.r 0)).p 42 v9).p 43 v10).p 44 v10).p 36 v10) h [] K))
(bh (w111 J n0 [1,1,0,0,1,1,1,1,1,1,1] ((((((((((((((((((f.p 25 (f.r 5)).p 26 v1).p 24 v1).p 32 (f.r 5)).p 33 (f.r 0)).p 34 v5).p 35 v6).p 31 v6).p 37 (f.r 5)).p 38 v7).p 39 v8).p 40 v8).p 40 (Value.bool false)).p 41 undef).p 42 undef).p 43 undef).p 44 (Value.bool false)).p 36 (Value.bool false)) h [] K)))))) := sub_eq pok111 ct111 (by kernel_rfl)
theorem at120 : prog.funcs[120]? = some f120 := by kernel_rfl
theorem body120 : f120.body = some (codeOf f120) := by kernel_rfl
def pl120 : bj := []
def ct120 : bB := .go
theorem pok120 : aC prog pl120 (codeOf f120) = true := by kernel_rfl
theorem e120 {a0 a1 : Value} : W prog J 8 h.length 120 (codeOf f120) (RG.mk (ax [a0,a1]) []) h (aq prog [.tmp 4] h.length K) =
(Good prog J 129 [a0,a1] h fun v1 h2 =>
aI h.length K [] [v1] h2) := aT pok120 ct120 (by kernel_rfl)
theorem g120 (hJ : Closed prog main J) {a0 a1 : Value} (hs : aD h → W prog J 8 h.length 120 (codeOf f120) (RG.mk (ax [a0,a1]) []) h (aq prog [.tmp 4] h.length K)) : Good prog J 120 [a0,a1] h K :=
 az hJ mixed at120 body120 (by kernel_rfl) (Nat.le_of_ble_eq_true rfl) hs
theorem at97 : prog.funcs[97]? = some f97 := by kernel_rfl
theorem body97 : f97.body = some (codeOf f97) := by kernel_rfl
def pl97 : bj := [(3,false,.take 0 (.take 1 (.take 3 (.take 4 (.take 5 (.take 6 (.take 7 (.alt 2 true (.take 9 (.last 8 true (.take 10 (.take 11 (.fin))))) (.last 8 true (.last 2 true (.take 9 (.take 10 (.take 11 (.fin))))))))))))))]
def ct97 : bB := .go
theorem pok97 : aC prog pl97 (codeOf f97) = true := by kernel_rfl
theorem e97 {a0 a1 : Value} : W prog J 23 h.length 97 (codeOf f97) (RG.mk (ax [a0,a1]) []) h (aq prog [.tmp 4,.tmp 5,.tmp 6] h.length K) =
(Good prog J 111 [a0,a1] h fun v1 h2 =>
aj prog .geq 3 v1 (ab 0) fun v3 =>
cnd v3
((∃ B,bA a1 fun v4 =>
aR (some B) (mapBlk a1) ∧ (aj prog .add 3 v1 v4 fun v5 =>
(aZ a0 none (some v1) fun v6 =>
aG (some B) h2 h2 ∧ (aZ a0 (some v5) none fun v7 =>
aG (some B) h2 h2 ∧ (aI h.length K [] [v6,v7,(Value.bool true)] h2))) ∧ (aZ a0 (some v5) none fun v8 =>
aG (some B) h2 h2 ∧ (aZ a0 none (some v1) fun v9 =>
aG (some B) h2 h2 ∧ (aI h.length K [] [v9,v8,(Value.bool true)] h2))))))
(aI h.length K [] [a0,(Value.string { data := #[] }),(Value.bool false)] h2)) := aT pok97 ct97 (by kernel_rfl)
theorem g97 (hJ : Closed prog main J) {a0 a1 : Value} (hs : aD h → W prog J 23 h.length 97 (codeOf f97) (RG.mk (ax [a0,a1]) []) h (aq prog [.tmp 4,.tmp 5,.tmp 6] h.length K)) : Good prog J 97 [a0,a1] h K :=
 az hJ mixed at97 body97 (by kernel_rfl) (Nat.le_of_ble_eq_true rfl) hs
theorem at61 : prog.funcs[61]? = some f61 := by kernel_rfl
theorem body61 : f61.body = some (codeOf f61) := by kernel_rfl
def pl61 : bj := []
def ct61 : bB := .go
theorem pok61 : aC prog pl61 (codeOf f61) = true := by kernel_rfl
theorem e61 {a0 a1 : Value} : W prog J 13 h.length 61 (codeOf f61) (RG.mk (ax [a0,a1]) []) h (aq prog [.tmp 4,.tmp 5,.tmp 6] h.length K) =
(Good prog J 97 [a0,a1] h fun v1 h2 =>
bL v1 0 fun v3 =>
bL v1 1 fun v4 =>
bL v1 2 fun v5 =>
aI h.length K [] [v3,v4,v5] h2) := aT pok61 ct61 (by kernel_rfl)
theorem g61 (hJ : Closed prog main J) {a0 a1 : Value} (hs : aD h → W prog J 13 h.length 61 (codeOf f61) (RG.mk (ax [a0,a1]) []) h (aq prog [.tmp 4,.tmp 5,.tmp 6] h.length K)) : Good prog J 61 [a0,a1] h K :=
 az hJ mixed at61 body61 (by kernel_rfl) (Nat.le_of_ble_eq_true rfl) hs
end
end Go.Proofs.YtlhanfcgdfjhjaaGreatDoor
namespace Go.Proofs.YtlhanfcgdfjhjaaGreatDoor
open Go.Conc Go.Proofs.Tryz
set_option maxRecDepth 100000
theorem beqD {α : Type} [BEq α] [LawfulBEq α] [DecidableEq α] (a b : α) : (a == b) = decide (a = b) := by
 rw [Bool.eq_iff_iff]
 simp
section
variable {main : Bool} {J : JT} {H : List af} {K : Value → List af → Prop} {KV : Value → Prop} {F : RG}
theorem slS {s : List UInt8} {lo hi : Nat} (h : lo ≤ hi ∧ hi ≤ s.length) (hk : KV (ay ((s.take hi).drop lo))) : aZ (ay s) (some (ab lo)) (some (ab hi)) KV := by
 show match (bif decide ((0 : Int) ≤ lo) then some (lo : Int).toNat else none),(bif decide ((0 : Int) ≤ hi) then some (hi : Int).toNat else none) with
  | some l,some u => (l ≤ u ∧ u ≤ s.length) ∧ KV (.string ⟨⟨(s.take u).drop l⟩⟩)
  | _,_ => False
 rw [decide_eq_true (by omega : (0 : Int) ≤ lo),decide_eq_true (by omega : (0 : Int) ≤ hi),cond_true,cond_true]
 exact ⟨⟨by omega,by omega⟩,hk⟩
theorem slTo' {s : List UInt8} {hi : Nat} (h : hi ≤ s.length) (hk : KV (ay (s.take hi))) : aZ (ay s) none (some (ab hi)) KV := by
 show match (bif decide ((0 : Int) ≤ hi) then some (hi : Int).toNat else none) with
  | some u => (0 ≤ u ∧ u ≤ s.length) ∧ KV (.string ⟨⟨(s.take u).drop 0⟩⟩)
  | _ => False
 rw [decide_eq_true (by omega : (0 : Int) ≤ hi),cond_true]
 exact ⟨⟨by omega,by omega⟩,hk⟩
theorem slFr' {s : List UInt8} {lo : Nat} (h : lo ≤ s.length) (hk : KV (ay (s.drop lo))) : aZ (ay s) (some (ab lo)) none KV := by
 show match (bif decide ((0 : Int) ≤ lo) then some (lo : Int).toNat else none),some s.length with
  | some l,some u => (l ≤ u ∧ u ≤ s.length) ∧ KV (.string ⟨⟨(s.take u).drop l⟩⟩)
  | _,_ => False
 rw [decide_eq_true (by omega : (0 : Int) ≤ lo),cond_true]
 simp only [List.take_length]
 exact ⟨⟨by omega,by omega⟩,hk⟩
theorem eqS {t : TypeId} {a b : List UInt8} (hk : KV (.bool (decide (a = b)))) : aj prog .eql t (ay a) (ay b) KV := by
 show KV (.bool ((ByteArray.mk ⟨a⟩).toList == (ByteArray.mk ⟨b⟩).toList))
 have e : ∀ l : List UInt8,(ByteArray.mk ⟨l⟩).toList = l := fun l => Lib.toList_data _
 rw [e,e,beqD]
 exact hk
theorem eqU {t : TypeId} {a b : UInt8} (hk : KV (.bool (decide (a = b)))) : aj prog .eql t (.int .u8 a.toNat) (.int .u8 b.toNat) KV := by
 refine ⟨rfl,?_⟩
 show KV (.bool ((a.toNat : Int) == (b.toNat : Int)))
 have : ((a.toNat : Int) == (b.toNat : Int)) = decide (a = b) := by
  rw [beqD]
  congr 1
  exact propext ⟨fun h => UInt8.toNat_inj.1 (by omega),fun h => by rw [h]⟩
 rw [this]
 exact hk
theorem idS {s : List UInt8} {j : Nat} {b : UInt8} (hj : s[j]? = some b) (hk : KV (.int .u8 b.toNat)) : bX (ay s) (ab (j : Int)) KV := by
 show 0 ≤ (j : Int) ∧ match s[(j : Int).toNat]? with
  | some b => KV (.int .u8 b.toNat)
  | none => False
 refine ⟨by omega,?_⟩
 rw [Int.toNat_natCast,hj]
 exact hk
theorem good118 (hJ : Closed prog main J) {s : List UInt8} {c : UInt8} (hK : K (ab (s.count c : Nat)) H) : Good prog J 118 [ay s,ay [c]] H K := by
 refine g118 hJ fun ok => ?_
 rw [e118]
 refine di (eqlI (ba (fun h => absurd h (by simp)) fun _ => di (eqlI (ba (fun _ => idS (j := 0) rfl ?_) fun h => absurd rfl h))))
 exact good_count hJ (fn := f128) ⟨by kernel_rfl,by kernel_rfl,by kernel_rfl,by kernel_rfl,by kernel_rfl⟩ (ao (by simp [unk]) hK)
theorem good120 (hJ : Closed prog main J) {s : List UInt8} {c : UInt8} (hK : K (ab (Lib.indexByte s c)) H) : Good prog J 120 [ay s,.int .u8 c.toNat] H K := by
 refine g120 hJ fun ok => ?_
 rw [e120]
 exact good_idxB hJ (fn := f129) ⟨by kernel_rfl,by kernel_rfl,by kernel_rfl,by kernel_rfl,by kernel_rfl⟩ (ao (by simp [unk]) hK)
theorem good111a (hJ : Closed prog main J) {s : List UInt8} {c : UInt8} (hK : K (ab (Lib.indexByte s c)) H) : Good prog J 111 [ay s,ay [c]] H K := by
 refine g111 hJ fun ok => ?_
 rw [e111]
 refine di (eqlI (ba (fun h => absurd h (by simp)) fun _ => eqS (hold.2 ?_)))
 rw [s111_1]
 refine ba (fun h => ?_) fun _ => ?_
 ·have h : [c] = s := h
  subst h
  refine ao (by simp [unk]) ?_
  simpa [Lib.indexByte,pack] using hK
 ·refine eqlI (ba (fun _ => idS (s := [c]) (j := 0) rfl (good120 hJ (ao (by simp [unk]) hK))) fun h => absurd rfl h)
theorem good119a (hJ : Closed prog main J) {s : List UInt8} {c : UInt8} (hK : K (ab (Lib.indexByte s c)) H) : Good prog J 119 [ay s,ay [c]] H K := by
 refine g119 hJ fun ok => ?_
 rw [e119]
 exact good111a hJ (ao (by simp [unk]) hK)
theorem indexByte_cut {l : List UInt8} {c : UInt8} {o : Nat} (h : Lib.indexByte l c = o) : l = l.take o ++ c :: l.drop (o + 1) ∧ (∀ b ∈ l.take o,b ≠ c) ∧ o < l.length := by
 obtain ⟨h1,h2⟩ := Lib.indexByte_some h
 have hlt := (List.getElem?_eq_some_iff.1 h1).1
 refine ⟨?_,fun b hb e => ?_,hlt⟩
 ·have := (List.getElem?_eq_some_iff.1 h1).2
  rw [← this,List.getElem_cons_drop,List.take_append_drop]
 ·obtain ⟨i,hi⟩ := List.getElem?_of_mem hb
  rw [List.getElem?_take] at hi
  split at hi
  ·rename_i hio
   exact h2 i hio (by rw [hi,e])
  ·cases hi
theorem indexByte_none' {l : List UInt8} {c : UInt8} (h : Lib.indexByte l c < 0) : ∀ b ∈ l,b ≠ c := by
 have hn : Lib.indexByte l c = -1 := by have := Lib.indexByte_ge l c; omega
 intro b hb e
 obtain ⟨i,hi⟩ := List.getElem?_of_mem hb
 exact Lib.indexByte_none hn i (by rw [hi,e])
end
section
variable {main : Bool} {J : JT} {H : List af} {K : Value → List af → Prop} {KV : Value → Prop} {F : RG}
theorem slA2 {p n k : Nat} (h : k ≤ n ∧ n < fz) (hk : KV (.slice (some ⟨p,0,none⟩) k n)) : aSl2 1 (.slice (some ⟨p,0,none⟩) n n) none (some (ab k)) H KV := by
 show match (bif decide ((0 : Int) ≤ (k : Int)) then some (k : Int).toNat else none) with
  | some u => (0 ≤ u) ∧ ((n < fz → u ≤ n ∧ KV (.slice (some ⟨p,bif Nat.beq n 0 then 0 else 0 + 0 * 1,none⟩) (u - 0) (n - 0))) ∧ _)
  | _ => False
 rw [decide_eq_true (by omega : (0 : Int) ≤ (k : Int)),cond_true]
 refine ⟨Nat.zero_le _,fun _ => ⟨by omega,?_⟩,fun h' => absurd h.2 (Nat.not_lt.2 h')⟩
 have e : (bif Nat.beq n 0 then 0 else 0 + 0 * 1) = 0 := by cases Nat.beq n 0 <;> rfl
 rw [e]
 simpa using hk
theorem strs_ok (n : Nat) (l : List (List UInt8)) (wr : Bool) (sz : Nat) : dK n (.cells (l.map ay) wr sz) := by
 simp only [dK,cK]
 intro v hv
 obtain ⟨b,_,rfl⟩ := List.mem_map.1 hv
 simp [ay,VOk]
theorem good110 (hJ : Closed prog main J) {s : List UInt8} {c : UInt8} (hs : s.length ≤ 2000) (hK : K (.slice (some ⟨H.length,0,none⟩) (aE c s).length (aE c s).length) (H ++ [.cells ((aE c s).map ay) true 0])) :
  Good prog J 110 [ay s,ay [c],ab 0,ab (-1)] H K := by
 refine g110 hJ fun ok => ?_
 rw [e110]
 have hcl : s.count c ≤ s.length := List.count_le_length
 have hfz : 100000 < fz := by decide
 refine eqlI (ba (fun h => absurd h (by omega)) fun _ => eqS (ba (fun h => absurd h (by simp)) fun _ => dh (ba (fun _ => ?_) fun h => absurd (by omega) h)))
 refine good118 hJ (ck (by omega) (hold.2 ?_))
 rw [s110_1]
 refine di (ck (by omega) (minI ?_))
 have hmin : min (((s.count c : Nat) : Int) + 1) ((s.length : Int) + 1) = ((s.count c + 1 : Nat) : Int) := by omega
 rw [hmin]
 have hpc := partsB_count (c := c) s
 generalize hn : s.count c = n at *
 refine ⟨⟨rfl,by decide⟩,qMk (n := n + 1) (by omega) fun H1 p e1 S1 c1 l1 => subI (by omega) ?_⟩
 have hzr : aV [Value.string { data := #[] }] (n + 1) = List.replicate (n + 1) (ay []) := by
  have : ∀ m,aV [Value.string { data := #[] }] m = List.replicate m (ay []) := by
   intro m
   induction m with
   | zero => rfl
   | succ m ih =>
    show [Value.string { data := #[] }] ++ aV _ m = _
    rw [ih]
    rfl
  exact this _
 rw [hzr] at c1
 refine l110_2 hJ (S := Nat × List UInt8) (fun x => x.2.length) (fun x F H' => ∃ done : List (List UInt8),done.length = x.1 ∧ aE c s = done ++ aE c x.2 ∧ x.2.length ≤ s.length ∧ x.1 ≤ n ∧ F.ds = [] ∧ F.r 0 = ay x.2 ∧ F.r 1 = ay [c] ∧ F.r 2 = ab 0 ∧ F.r 3 = ab ((n : Nat) : Int) ∧ F.r 9 = .slice (some ⟨p,0,none⟩) (n + 1) (n + 1) ∧ F.r 10 = ab (x.1 : Nat) ∧ ag [] H H' ∧ H'[p]? = some (.cells (done.map ay ++ List.replicate (n + 1 - x.1) (ay [])) true 0)) ?_ (s := (0,s))
  (.inl ⟨[],rfl,rfl,Nat.le_refl _,Nat.zero_le _,rfl,rfl,rfl,rfl,by show ab _ = ab _; congr 1; omega,rfl,rfl,S1,by simpa using c1⟩)
 rintro ⟨i,r⟩ F H2 ⟨done,hd,hp,hrl,hin,ds,r0,r1,r2,r3,r9,r10,S2,c2⟩ ok2 hn2
 dsimp only at hd hp hrl hin r0 r10 c2
 rw [s110_2]
 simp only [ds,r0,r1,r2,r3,r9,r10]
 have hlen : done.length + (aE c r).length = n + 1 := by rw [← List.length_append,← hp,hpc]
 have hrc := partsB_count (c := c) r
 have hset : ∀ u : List UInt8,(done.map ay ++ List.replicate (n + 1 - i) (ay [])).set i (ay u) = (done ++ [u]).map ay ++ List.replicate (n + 1 - (i + 1)) (ay []) := fun u => by
  rw [List.set_append_right _ _ (by simp [hd])]
  simp only [List.length_map,hd,Nat.sub_self,List.map_append,List.map_cons,List.map_nil,List.append_assoc]
  congr 1
  rw [show n + 1 - i = (n + 1 - (i + 1)) + 1 from by omega,List.replicate_succ]
  rfl
 refine dh (ba (fun hlt => ?_) fun hge => ?_)
 ·refine good119a hJ ?_
  have hge := Lib.indexByte_ge r c
  refine dh (ba (fun hneg => ?_) fun hpos => ?_)
  ·have h1 := partsB_one r (indexByte_none' hneg)
   rw [h1] at hlen
   simp at hlen
   omega
  obtain ⟨o,ho⟩ : ∃ o : Nat,Lib.indexByte r c = o := ⟨(Lib.indexByte r c).toNat,by omega⟩
  rw [ho]
  obtain ⟨hcut,hno,hol⟩ := indexByte_cut ho
  refine ck (by omega) ?_
  rw [show ((o : Int) + 0) = (o : Int) by omega]
  refine slTo' (by omega) (idxI ⟨by omega,by omega⟩ (qSt (v := ay (r.take o)) c2 (by simp [hd]; omega) rfl rfl fun H3 S3 c3 l3 => ?_))
  refine di (s := [c]) (ck (by simp; omega) ?_)
  rw [show ((o : Int) + (([c] : List UInt8).length : Int)) = ((o + 1 : Nat) : Int) from rfl]
  refine slFr' (by omega) (ck (by omega) ?_)
  refine ⟨(i + 1,r.drop (o + 1)),by simp; omega,.inl ⟨done ++ [r.take o],by simp [hd],?_,by simp; omega,by omega,ds,rfl,r1,r2,r3,r9,rfl,S2.bq S3 ?_,?_⟩⟩
  ·rw [hp]
   conv => lhs; rw [hcut,partsB_cut _ _ hno]
   simp
  ·simp; omega
  ·rw [c3]
   congr 2
   rw [← hset]
   congr 1
   simp
 ·have hi : i = n := by omega
  have hl1 : (aE c r).length = 1 := by omega
  have hr0 : r.count c = 0 := by omega
  have h1 := partsB_one (c := c) r fun b hb e => absurd (List.count_pos_iff.2 (e ▸ hb)) (by omega)
  rw [h1] at hp
  refine idxI ⟨by omega,by omega⟩ (qSt (v := ay r) c2 (by simp [hd]; omega) rfl rfl fun H3 S3 c3 l3 => ?_)
  refine ck (by omega) ?_
  rw [show ((i : Nat) : Int) + 1 = ((n + 1 : Nat) : Int) by omega]
  refine slA2 ⟨Nat.le_refl _,by omega⟩ ?_
  have c3' : H3[p]? = some (.cells ((aE c s).map ay) true 0) := by
   rw [c3,hp]
   congr 2
   have := hset r
   rw [show n + 1 - (i + 1) = 0 by omega] at this
   simpa using this
  have S13 : ag [] H H3 := S2.bq S3 (by simp; omega)
  obtain ⟨g,rfl⟩ := S13.app0 (by simp)
  rw [hpc] at hK
  exact retL_one ok (Nat.le_refl _) c3' (by omega) (strs_ok _ _ _ _) hK
theorem good95 (hJ : Closed prog main J) {s : List UInt8} {c : UInt8} (hs : s.length ≤ 2000) (hK : K (.slice (some ⟨H.length,0,none⟩) (aE c s).length (aE c s).length) (H ++ [.cells ((aE c s).map ay) true 0])) :
  Good prog J 95 [ay s,ay [c]] H K := by
 refine g95 hJ fun ok => ?_
 rw [e95]
 exact good110 hJ hs (retL_one ok (Nat.le_refl _) (by simp) (Nat.le_refl _) (strs_ok _ _ _ _) hK)
end
end Go.Proofs.YtlhanfcgdfjhjaaGreatDoor
namespace Go.Proofs.YtlhanfcgdfjhjaaGreatDoor
open Go.Conc Go.Proofs.Tryz
set_option maxRecDepth 100000
set_option maxHeartbeats 4000000
set_option linter.unusedVariables false
section
variable {main : Bool} {J : JT} {n0 : Nat} {h : List af} {K : Value → List af → Prop}
theorem at96 : prog.funcs[96]? = some f96 := by kernel_rfl
theorem body96 : f96.body = some (codeOf f96) := by kernel_rfl
def pl96 : bj := []
def ct96 : bB := .bin (.go) (.bin (.bin (.go) (.cut (.go))) (.bin (.go) (.bin (.bin (.go) (.un (.un (.bin (.go) (.bin (.go) (.bin (.un (.bin (.go) (.bin (.bin (.go) (.cut (.go))) (.go)))) (.go))))))) (.go))))
theorem pok96 : aC prog pl96 (codeOf f96) = true := by kernel_rfl
abbrev w96 (J : JT) (n0 : Nat) (p : List Nat) (f : RG) (h : List af) (l : List (RG → List af → Prop)) (K : Value → List af → Prop) : Prop := W prog J 49 n0 96 (aw p (codeOf f96)) f h (aA pl96 prog J 49 n0 96 ct96 p (codeOf f96) l (aq prog [.tmp 2,.tmp 3] n0 K))
theorem e96 {a0 : Value} : W prog J 49 h.length 96 (codeOf f96) (RG.mk (ax [a0]) []) h (aq prog [.tmp 2,.tmp 3] h.length K) =
(bA a0 fun v1 =>
aj prog .lss 3 v1 (ab 1) fun v2 =>
cnd v2
(bh (w96 J h.length [1,0,1] (((((((((((((((((((((((RG.mk (ax [a0]) []).p 2 (ab 0)).p 3 (Value.bool false)).p 6 a0).p 7 v1).p 8 v2).p 9 v2).p 9 (Value.bool true)).p 10 undef).p 11 undef).p 12 undef).p 13 (Value.bool true)).p 14 (Value.bool true)).p 14 (Value.bool true)).p 15 undef).p 16 undef).p 17 undef).p 18 undef).p 19 undef).p 20 undef).p 21 undef).p 22 undef).p 23 (Value.bool true)) h [] K))
(bA a0 fun v3 =>
aj prog .gtr 3 v3 (ab 3) fun v4 =>
cnd v4
(bh (w96 J h.length [1,0,1] (((((((((((((((((((((((RG.mk (ax [a0]) []).p 2 (ab 0)).p 3 (Value.bool false)).p 6 a0).p 7 v1).p 8 v2).p 9 v2).p 9 (Value.bool false)).p 10 a0).p 11 v3).p 12 v4).p 13 v4).p 14 v4).p 14 (Value.bool true)).p 15 undef).p 16 undef).p 17 undef).p 18 undef).p 19 undef).p 20 undef).p 21 undef).p 22 undef).p 23 (Value.bool true)) h [] K))
(bX a0 (ab 0) fun v5 =>
aj prog .eql 5 v5 (Value.int .u8 48) fun v6 =>
cnd v6
(bA a0 fun v7 =>
aj prog .gtr 3 v7 (ab 1) fun v8 =>
bh (w96 J h.length [1,0,1] ((((((((((((((((((((((((RG.mk (ax [a0]) []).p 2 (ab 0)).p 3 (Value.bool false)).p 6 a0).p 7 v1).p 8 v2).p 9 v2).p 9 (Value.bool false)).p 10 a0).p 11 v3).p 12 v4).p 13 v4).p 14 v4).p 14 (Value.bool false)).p 15 a0).p 16 v5).p 17 v6).p 18 v6).p 18 (Value.bool true)).p 19 a0).p 20 v7).p 21 v8).p 22 v8).p 23 v8) h [] K))
(bh (w96 J h.length [1,0,1] ((((((((((((((((((((((((RG.mk (ax [a0]) []).p 2 (ab 0)).p 3 (Value.bool false)).p 6 a0).p 7 v1).p 8 v2).p 9 v2).p 9 (Value.bool false)).p 10 a0).p 11 v3).p 12 v4).p 13 v4).p 14 v4).p 14 (Value.bool false)).p 15 a0).p 16 v5).p 17 v6).p 18 v6).p 18 (Value.bool false)).p 19 undef).p 20 undef).p 21 undef).p 22 (Value.bool false)).p 23 (Value.bool false)) h [] K))))) := aT pok96 ct96 (by kernel_rfl)
theorem g96 (hJ : Closed prog main J) {a0 : Value} (hs : aD h → W prog J 49 h.length 96 (codeOf f96) (RG.mk (ax [a0]) []) h (aq prog [.tmp 2,.tmp 3] h.length K)) : Good prog J 96 [a0] h K :=
 az hJ mixed at96 body96 (by kernel_rfl) (Nat.le_of_ble_eq_true rfl) hs
theorem s96_1 {f : RG} : w96 J n0 [1,0,1] f h [] K =
(cnd (f.r 23)
(aI n0 K f.ds [(ab 0),(Value.bool false)] h)
(bA (f.r 0) fun v1 =>
Sem J 49 n0 96 (aw yp1 (codeOf f96)) ((((f.p 4 (ab 0)).p 24 (f.r 0)).p 25 v1).p 26 (ab 0)) h (aA pl96 prog J 49 n0 96 ct96 yp1 (codeOf f96) [] (aq prog [.tmp 2,.tmp 3] n0 K)))) := sub_eq pok96 ct96 (by kernel_rfl)
theorem s96_2 {f : RG} {nx0 : RG → List af → Prop} : W prog J 49 n0 96 (aw yp3 (codeOf f96)) f h (bc nx0 (aA pl96 prog J 49 n0 96 ct96 yp1 (codeOf f96) [] (aq prog [.tmp 2,.tmp 3] n0 K))) =
(aj prog .lss 3 (f.r 26) (f.r 25) fun v1 =>
cnd v1
(bX (f.r 0) (f.r 26) fun v2 =>
aj prog .lss 5 v2 (Value.int .u8 48) fun v3 =>
cnd v3
(bh (w96 J n0 yp14 ((((((((((((((f.p 27 v1).p 28 (f.r 26)).p 5 (f.r 26)).p 29 (f.r 0)).p 30 (f.r 26)).p 31 v2).p 32 v3).p 33 v3).p 33 (Value.bool true)).p 34 undef).p 35 undef).p 36 undef).p 37 undef).p 38 (Value.bool true)) h [nx0] K))
(bX (f.r 0) (f.r 26) fun v4 =>
aj prog .gtr 5 v4 (Value.int .u8 57) fun v5 =>
bh (w96 J n0 yp14 ((((((((((((((f.p 27 v1).p 28 (f.r 26)).p 5 (f.r 26)).p 29 (f.r 0)).p 30 (f.r 26)).p 31 v2).p 32 v3).p 33 v3).p 33 (Value.bool false)).p 34 (f.r 0)).p 35 (f.r 26)).p 36 v4).p 37 v5).p 38 v5) h [nx0] K)))
(aI n0 K f.ds [(f.r 4),(Value.bool true)] h)) := sub_eq pok96 ct96 (by kernel_rfl)
theorem l96_2 (hJ : Closed prog main J) {S : Type} (μ : S → Nat) (I : S → RG → List af → Prop) (hI : ∀ s f h,I s f h → aD h → n0 ≤ h.length → W prog J 49 n0 96 (aw yp3 (codeOf f96)) f h (bc (Nx n0 μ I s) (aA pl96 prog J 49 n0 96 ct96 yp1 (codeOf f96) [] (aq prog [.tmp 2,.tmp 3] n0 K))))
 {s : S} {f : RG} (hi : dJ n0 I s f h) : Sem J 49 n0 96 (aw yp1 (codeOf f96)) f h (aA pl96 prog J 49 n0 96 ct96 yp1 (codeOf f96) [] (aq prog [.tmp 2,.tmp 3] n0 K)) :=
 bn hJ mixed (b := aw yp3 (codeOf f96)) (by kernel_rfl) μ I hI hi
theorem s96_3 {f : RG} {nx0 : RG → List af → Prop} : w96 J n0 yp14 f h [nx0] K =
(cnd (f.r 38)
(aI n0 K f.ds [(ab 0),(Value.bool false)] h)
(aj prog .mul 3 (f.r 4) (ab 10) fun v1 =>
bX (f.r 0) (f.r 5) fun v2 =>
aj prog .sub 5 v2 (Value.int .u8 48) fun v3 =>
aConvI .i64 v3 fun v4 =>
aj prog .add 3 v1 v4 fun v5 =>
aj prog .add 3 (f.r 26) (ab 1) fun v6 =>
nx0 (((((((((((f.p 39 (f.r 4)).p 40 v1).p 41 (f.r 0)).p 42 (f.r 5)).p 43 v2).p 44 v3).p 45 v4).p 46 v5).p 4 v5).p 47 v6).p 26 v6) h)) := sub_eq pok96 ct96 (by kernel_rfl)
theorem at58 : prog.funcs[58]? = some f58 := by kernel_rfl
theorem body58 : f58.body = some (codeOf f58) := by kernel_rfl
def pl58 : bj := []
def ct58 : bB := .bin (.go) (.bin (.go) (.bin (.go) (.bin (.bin (.go) (.un (.un (.bin (.go) (.bin (.go) (.bin (.un (.bin (.go) (.bin (.go) (.bin (.bin (.go) (.cut (.go))) (.go))))) (.go))))))) (.go))))
theorem pok58 : aC prog pl58 (codeOf f58) = true := by kernel_rfl
abbrev w58 (J : JT) (n0 : Nat) (p : List Nat) (f : RG) (h : List af) (l : List (RG → List af → Prop)) (K : Value → List af → Prop) : Prop := W prog J 58 n0 58 (aw p (codeOf f58)) f h (aA pl58 prog J 58 n0 58 ct58 p (codeOf f58) l (aq prog [.tmp 6] n0 K))
theorem e58 {a0 a1 a2 : Value} : W prog J 58 h.length 58 (codeOf f58) (RG.mk (ax [a0,a1,a2]) []) h (aq prog [.tmp 6] h.length K) =
(Good prog J 95 [a0,(Value.string { data := #[32] })] h fun v1 h2 =>
Good prog J 95 [a1,(Value.string { data := #[32] })] h2 fun v3 h4 =>
b0 v1 fun v5 =>
b0 v3 fun v6 =>
aj prog .mul 3 (ab 2) v6 fun v7 =>
aj prog .neq 3 v5 v7 fun v8 =>
cnd v8
(aI h.length K [] [(Value.bool false)] h4)
(b0 v3 fun v9 =>
Sem J 58 h.length 58 (aw yp1 (codeOf f58)) (((((((((((((((((RG.mk (ax [a0,a1,a2]) []).p 6 (Value.bool false)).p 13 a0).p 14 v1).p 15 a1).p 16 v3).p 7 v1).p 8 v3).p 17 v1).p 18 v5).p 19 v3).p 20 v6).p 21 v7).p 22 v8).p 23 v3).p 24 v9).p 25 (ab 0)) h4 (aA pl58 prog J 58 h.length 58 ct58 yp1 (codeOf f58) [] (aq prog [.tmp 6] h.length K)))) := aT pok58 ct58 (by kernel_rfl)
theorem g58 (hJ : Closed prog main J) {a0 a1 a2 : Value} (hs : aD h → W prog J 58 h.length 58 (codeOf f58) (RG.mk (ax [a0,a1,a2]) []) h (aq prog [.tmp 6] h.length K)) : Good prog J 58 [a0,a1,a2] h K :=
 az hJ mixed at58 body58 (by kernel_rfl) (Nat.le_of_ble_eq_true rfl) hs
theorem s58_1 {f : RG} {nx0 : RG → List af → Prop} : W prog J 58 n0 58 (aw yp3 (codeOf f58)) f h (bc nx0 (aA pl58 prog J 58 n0 58 ct58 yp1 (codeOf f58) [] (aq prog [.tmp 6] n0 K))) =
(aj prog .lss 3 (f.r 25) (f.r 24) fun v1 =>
cnd v1
(bT 1 (f.r 23) (f.r 25) fun v2 =>
ai false 1 v2 h fun v3 =>
aj prog .mul 3 (ab 2) (f.r 25) fun v4 =>
aj prog .add 3 v4 (ab 1) fun v5 =>
bT 1 (f.r 7) v5 fun v6 =>
ai false 1 v6 h fun v7 =>
Good prog J 96 [v7] h fun v8 h9 =>
bL v8 0 fun v10 =>
bL v8 1 fun v11 =>
aUn .not v11 fun v12 =>
cnd v12
(bh (w58 J n0 yp15 ((((((((((((((((((((((((((((((f.p 26 v1).p 27 (f.r 25)).p 28 v2).p 29 v3).p 9 (f.r 25)).p 10 v3).p 31 (f.r 7)).p 32 (f.r 25)).p 33 v4).p 34 v5).p 35 v6).p 36 v7).p 37 v8).p 30 v8).p 38 v10).p 39 v11).p 11 v10).p 12 v11).p 40 v11).p 41 v12).p 42 v12).p 42 (Value.bool true)).p 43 undef).p 44 undef).p 45 undef).p 46 undef).p 47 undef).p 48 undef).p 49 undef).p 50 (Value.bool true)) h9 [nx0] K))
(aj prog .mul 3 (ab 2) (f.r 25) fun v13 =>
bT 1 (f.r 7) v13 fun v14 =>
ai false 1 v14 h9 fun v15 =>
aj prog .neq 9 v15 v3 fun v16 =>
bh (w58 J n0 yp15 ((((((((((((((((((((((((((((((f.p 26 v1).p 27 (f.r 25)).p 28 v2).p 29 v3).p 9 (f.r 25)).p 10 v3).p 31 (f.r 7)).p 32 (f.r 25)).p 33 v4).p 34 v5).p 35 v6).p 36 v7).p 37 v8).p 30 v8).p 38 v10).p 39 v11).p 11 v10).p 12 v11).p 40 v11).p 41 v12).p 42 v12).p 42 (Value.bool false)).p 43 (f.r 7)).p 44 (f.r 25)).p 45 v13).p 46 v14).p 47 v15).p 48 v3).p 49 v16).p 50 v16) h9 [nx0] K)))
(aI n0 K f.ds [(Value.bool true)] h)) := sub_eq pok58 ct58 (by kernel_rfl)
theorem l58_1 (hJ : Closed prog main J) {S : Type} (μ : S → Nat) (I : S → RG → List af → Prop) (hI : ∀ s f h,I s f h → aD h → n0 ≤ h.length → W prog J 58 n0 58 (aw yp3 (codeOf f58)) f h (bc (Nx n0 μ I s) (aA pl58 prog J 58 n0 58 ct58 yp1 (codeOf f58) [] (aq prog [.tmp 6] n0 K))))
 {s : S} {f : RG} (hi : dJ n0 I s f h) : Sem J 58 n0 58 (aw yp1 (codeOf f58)) f h (aA pl58 prog J 58 n0 58 ct58 yp1 (codeOf f58) [] (aq prog [.tmp 6] n0 K)) :=
 bn hJ mixed (b := aw yp3 (codeOf f58)) (by kernel_rfl) μ I hI hi
theorem s58_2 {f : RG} {nx0 : RG → List af → Prop} : w58 J n0 yp15 f h [nx0] K =
(cnd (f.r 50)
(aI n0 K f.ds [(Value.bool false)] h)
(bT 1 (f.r 2) (f.r 9) fun v1 =>
ai false 1 v1 h fun v2 =>
cJ v2 fun v3 =>
aB 1 v3 (f.r 11) h fun h4 =>
aj prog .add 3 (f.r 25) (ab 1) fun v5 =>
nx0 ((((((((f.p 51 (f.r 2)).p 52 (f.r 9)).p 53 v1).p 54 v2).p 55 (f.r 11)).p 56 v3).p 57 v5).p 25 v5) h4)) := sub_eq pok58 ct58 (by kernel_rfl)
theorem at57 : prog.funcs[57]? = some f57 := by kernel_rfl
theorem body57 : f57.body = some (codeOf f57) := by kernel_rfl
def pl57 : bj := [(1,false,.take 0 (.take 1 (.take 2 (.take 3 (.take 4 (.take 5 (.take 6 (.take 7 (.take 8 (.take 9 (.take 10 (.take 11 (.take 12 (.take 13 (.take 14 (.take 15 (.take 16 (.last 17 true (.last 18 true (.take 19 (.fin)))))))))))))))))))))]
def ct57 : bB := .go
theorem pok57 : aC prog pl57 (codeOf f57) = true := by kernel_rfl
theorem e57 {a0 a1 : Value} : W prog J 23 h.length 57 (codeOf f57) (RG.mk (ax [a0,a1]) []) h (aq prog [.tmp 3] h.length K) =
((∃ B,ai false 1 a1 h fun v1 =>
aR (some B) (au a1) ∧ (cJ v1 fun v2 =>
aL v2 0 fun v3 =>
aL v3 0 fun v4 =>
ai false 1 a1 h fun v5 =>
aR (some B) (au a1) ∧ (cJ v5 fun v6 =>
aL v6 0 fun v7 =>
aL v7 1 fun v8 =>
ai false 1 a1 h fun v9 =>
aR (some B) (au a1) ∧ (cJ v9 fun v10 =>
aL v10 0 fun v11 =>
aL v11 2 fun v12 =>
ai false 1 a1 h fun v13 =>
aR (some B) (au a1) ∧ (cJ v13 fun v14 =>
aL v14 0 fun v15 =>
aL v15 3 fun v16 =>
(((4 * 1 : Nat) ≤ 16777216 ∧ (4 : Nat) ≤ 16777216 ∧ List.length [(Value.pointer none)] = 1) ∧ aH (aV [(Value.pointer none)] 4) [(0,1,v4),(1,1,v8),(2,1,v12),(3,1,v16)] fun c17 =>
aX 4 c17 h fun v18 h19 =>
aG (some B) h h19 ∧ (Good prog J 58 [a0,(Value.string { data := #[103,114,97,115,115,32,111,102,32,103,114,111,119,115,32,116,111] }),v18] h19 fun v20 h21 =>
aG (some B) h h21 ∧ (aI h.length K [] [v20] h21))))))))) := aT pok57 ct57 (by kernel_rfl)
theorem g57 (hJ : Closed prog main J) {a0 a1 : Value} (hs : aD h → W prog J 23 h.length 57 (codeOf f57) (RG.mk (ax [a0,a1]) []) h (aq prog [.tmp 3] h.length K)) : Good prog J 57 [a0,a1] h K :=
 az hJ mixed at57 body57 (by kernel_rfl) (Nat.le_of_ble_eq_true rfl) hs
theorem at59 : prog.funcs[59]? = some f59 := by kernel_rfl
theorem body59 : f59.body = some (codeOf f59) := by kernel_rfl
def pl59 : bj := [(1,false,.take 0 (.take 1 (.take 2 (.take 3 (.take 4 (.take 5 (.take 6 (.take 7 (.take 8 (.last 9 true (.last 10 true (.take 11 (.fin)))))))))))))]
def ct59 : bB := .go
theorem pok59 : aC prog pl59 (codeOf f59) = true := by kernel_rfl
theorem e59 {a0 a1 : Value} : W prog J 15 h.length 59 (codeOf f59) (RG.mk (ax [a0,a1]) []) h (aq prog [.tmp 3] h.length K) =
((∃ B,ai false 1 a1 h fun v1 =>
aR (some B) (au a1) ∧ (cJ v1 fun v2 =>
aL v2 0 fun v3 =>
aL v3 4 fun v4 =>
ai false 1 a1 h fun v5 =>
aR (some B) (au a1) ∧ (cJ v5 fun v6 =>
aL v6 0 fun v7 =>
aL v7 5 fun v8 =>
(((2 * 1 : Nat) ≤ 16777216 ∧ (2 : Nat) ≤ 16777216 ∧ List.length [(Value.pointer none)] = 1) ∧ aH (aV [(Value.pointer none)] 2) [(0,1,v4),(1,1,v8)] fun c9 =>
aX 2 c9 h fun v10 h11 =>
aG (some B) h h11 ∧ (Good prog J 58 [a0,(Value.string { data := #[98,101,108,111,119,32,115,108,101,101,112,115] }),v10] h11 fun v12 h13 =>
aG (some B) h h13 ∧ (aI h.length K [] [v12] h13))))))) := aT pok59 ct59 (by kernel_rfl)
theorem g59 (hJ : Closed prog main J) {a0 a1 : Value} (hs : aD h → W prog J 15 h.length 59 (codeOf f59) (RG.mk (ax [a0,a1]) []) h (aq prog [.tmp 3] h.length K)) : Good prog J 59 [a0,a1] h K :=
 az hJ mixed at59 body59 (by kernel_rfl) (Nat.le_of_ble_eq_true rfl) hs
theorem at60 : prog.funcs[60]? = some f60 := by kernel_rfl
theorem body60 : f60.body = some (codeOf f60) := by kernel_rfl
def pl60 : bj := [(1,false,.take 0 (.take 1 (.take 2 (.take 3 (.take 4 (.take 5 (.take 6 (.take 7 (.take 8 (.take 9 (.take 10 (.take 11 (.take 12 (.last 13 true (.last 14 true (.take 15 (.fin)))))))))))))))))]
def ct60 : bB := .go
theorem pok60 : aC prog pl60 (codeOf f60) = true := by kernel_rfl
theorem e60 {a0 a1 : Value} : W prog J 19 h.length 60 (codeOf f60) (RG.mk (ax [a0,a1]) []) h (aq prog [.tmp 3] h.length K) =
((∃ B,ai false 1 a1 h fun v1 =>
aR (some B) (au a1) ∧ (cJ v1 fun v2 =>
aL v2 6 fun v3 =>
aL v3 0 fun v4 =>
ai false 1 a1 h fun v5 =>
aR (some B) (au a1) ∧ (cJ v5 fun v6 =>
aL v6 6 fun v7 =>
aL v7 1 fun v8 =>
ai false 1 a1 h fun v9 =>
aR (some B) (au a1) ∧ (cJ v9 fun v10 =>
aL v10 6 fun v11 =>
aL v11 2 fun v12 =>
(((3 * 1 : Nat) ≤ 16777216 ∧ (3 : Nat) ≤ 16777216 ∧ List.length [(Value.pointer none)] = 1) ∧ aH (aV [(Value.pointer none)] 3) [(0,1,v4),(1,1,v8),(2,1,v12)] fun c13 =>
aX 3 c13 h fun v14 h15 =>
aG (some B) h h15 ∧ (Good prog J 58 [a0,(Value.string { data := #[115,107,121,32,100,114,121,32,119,101,116] }),v14] h15 fun v16 h17 =>
aG (some B) h h17 ∧ (aI h.length K [] [v16] h17)))))))) := aT pok60 ct60 (by kernel_rfl)
theorem g60 (hJ : Closed prog main J) {a0 a1 : Value} (hs : aD h → W prog J 19 h.length 60 (codeOf f60) (RG.mk (ax [a0,a1]) []) h (aq prog [.tmp 3] h.length K)) : Good prog J 60 [a0,a1] h K :=
 az hJ mixed at60 body60 (by kernel_rfl) (Nat.le_of_ble_eq_true rfl) hs
end
end Go.Proofs.YtlhanfcgdfjhjaaGreatDoor
namespace Go.Proofs.YtlhanfcgdfjhjaaGreatDoor
open Go.Conc Go.Proofs.Tryz
set_option maxRecDepth 100000
theorem take_snoc {s : List UInt8} {k : Nat} {b : UInt8} (h : s[k]? = some b) : s.take (k + 1) = s.take k ++ [b] := by
 rw [List.take_add_one,h]
 rfl
theorem parts_le (c : UInt8) (s : List UInt8) : (aE c s).length ≤ s.length + 1 := by
 rw [partsB_count]
 have : s.count c ≤ s.length := List.count_le_length
 omega
theorem wrap_u8 {n : Int} (h1 : 0 ≤ n) (h2 : n < 256) : IntKind.u8.wrap n = n := by
 simp only [IntKind.wrap,IntKind.bits,IntKind.signed]
 simp
 omega
section
variable {main : Bool} {J : JT} {H : List af} {K : Value → List af → Prop} {KV : Value → Prop} {F : RG} {n0 : Nat}
theorem neS {t : TypeId} {a b : List UInt8} (hk : KV (.bool (decide (a ≠ b)))) : aj prog .neq t (ay a) (ay b) KV := by
 show KV (.bool (!((ByteArray.mk ⟨a⟩).toList == (ByteArray.mk ⟨b⟩).toList)))
 have e : ∀ l : List UInt8,(ByteArray.mk ⟨l⟩).toList = l := fun l => Lib.toList_data _
 rw [e,e,beqD,← decide_not]
 exact hk
theorem lenSl {b : Option Addr} {n c : Nat} (hk : KV (ab (n : Nat))) : b0 (.slice b n c) KV := hk
theorem lssK {t : TypeId} {k : IntKind} {a b : Int} (hk : KV (.bool (decide (a < b)))) : aj prog .lss t (.int k a) (.int k b) KV := ⟨rfl,hk⟩
theorem gtrK {t : TypeId} {k : IntKind} {a b : Int} (hk : KV (.bool (decide (a > b)))) : aj prog .gtr t (.int k a) (.int k b) KV := ⟨rfl,hk⟩
theorem cvK {k k' : IntKind} {n : Int} (hw : k.wrap n = n) (hk : KV (.int k n)) : aConvI k (.int k' n) KV := by
 show KV (.int k (k.wrap n))
 rw [hw]
 exact hk
theorem cvI64 {x : Int} (h : 0 ≤ x ∧ x < 256) (hk : KV (ab x)) : aConvI .i64 (.int .u8 x) KV := by
 refine cvK ?_ hk
 simp only [IntKind.wrap,IntKind.bits,IntKind.signed]
 simp
 omega
theorem subU {t : TypeId} {a : Int} (h : 48 ≤ a ∧ a < 256) (hk : KV (.int .u8 (a - 48))) : aj prog .sub t (.int .u8 a) (.int .u8 48) KV := ⟨rfl,by
 show KV (.int .u8 (IntKind.u8.wrap (a - 48)))
 rw [wrap_u8 (by omega) (by omega)]
 exact hk⟩
theorem eqU48 {t : TypeId} {a : UInt8} (hk : KV (.bool (decide (a = 48)))) : aj prog .eql t (.int .u8 a.toNat) (.int .u8 48) KV := eqU (b := 48) hk
theorem num_1 (hJ : Closed prog main J) {d : List UInt8} (ds : F.ds = []) (r0 : F.r 0 = ay d) {pre : Bool} (r23 : F.r 23 = .bool (!pre)) (hpre : pre = true → d.length ≤ 3)
  (k1 : (pre && d.all cM) = true → K (.tuple ⟨[ab (valB d),.bool true]⟩) H) (k2 : (pre && d.all cM) = false → K (.tuple ⟨[ab 0,.bool false]⟩) H) :
  w96 J n0 [1,0,1] F H [] K := by
 rw [s96_1]
 simp only [ds,r0,r23]
 cases pre with
 | false => exact bm.2 (ao (by simp [unk]) (k2 rfl))
 | true =>
  have hd3 := hpre rfl
  simp only [Bool.true_and] at k1 k2
  refine aP.2 (di ?_)
  refine l96_2 hJ (S := Nat) (fun i => d.length + 1 - i) (fun i F H' => H' = H ∧ i ≤ d.length ∧ F.ds = [] ∧ F.r 0 = ay d ∧ F.r 25 = ab (d.length : Nat) ∧ F.r 26 = ab (i : Nat) ∧ F.r 4 = ab (valB (d.take i)) ∧ (d.take i).all cM = true) ?_ (s := 0) (.inl ⟨rfl,Nat.zero_le _,ds,r0,rfl,rfl,rfl,rfl⟩)
  rintro i F H' ⟨rfl,hi,ds,r0,r25,r26,r4,hall⟩ ok' hn'
  rw [s96_2]
  simp only [ds,r0,r4,r25,r26]
  have hbd := valB_small hall (by simp; omega)
  refine dh (ba (fun hlt => ?_) fun hge => ?_)
  ·have hil : i < d.length := by omega
   have hx : d[i]? = some d[i] := List.getElem?_eq_getElem hil
   generalize d[i] = x at hx
   have hxl := x.toNat_lt
   have htk := take_snoc hx
   have bad : cM x = false → d.all cM = false := fun h => by
    cases ha : d.all cM with
    | false => rfl
    | true =>
     rw [List.all_eq_true] at ha
     rw [ha x (List.mem_of_getElem? hx)] at h
     cases h
   have out : ∀ {F : RG} {b2 : Bool},F.ds = [] → F.r 38 = .bool b2 → F.r 4 = ab (valB (d.take i)) → F.r 0 = ay d → F.r 5 = ab (i : Nat) → F.r 25 = ab (d.length : Nat) → F.r 26 = ab (i : Nat) → cM x = !b2 → _ := fun {F b2} ds r38 r4 r0 r5 r25 r26 hdig => show w96 J n0 yp14 F H' [Nx n0 (fun i => d.length + 1 - i) (fun i F H2 => H2 = H' ∧ i ≤ d.length ∧ F.ds = [] ∧ F.r 0 = ay d ∧ F.r 25 = ab (d.length : Nat) ∧ F.r 26 = ab (i : Nat) ∧ F.r 4 = ab (valB (d.take i)) ∧ (d.take i).all cM = true) i] K by
    rw [s96_3]
    simp only [ds,r38,r4,r0,r5,r26]
    cases b2 with
    | true => exact bm.2 (ao (by simp [unk]) (k2 (bad hdig)))
    | false =>
     have hdig : cM x = true := hdig
     rw [isDig_iff] at hdig
     refine aP.2 (mulI ⟨by omega,by omega⟩ (idS hx (subU ⟨by omega,by omega⟩ (cvI64 ⟨by omega,by omega⟩ (ck ⟨by omega,by omega⟩ (ck ⟨by omega,by omega⟩ ⟨i + 1,by dsimp only; omega,.inl ⟨rfl,by omega,ds,r0,r25,rfl,?_,?_⟩⟩))))))
     ·show ab _ = ab _
      rw [htk,valB_snoc]
     ·rw [htk,List.all_append,hall]
      simp [isDig_iff,hdig]
   refine idS hx (lssK (ba (fun hlo => hold.2 ?_) fun hlo => idS hx (gtrK (hold.2 ?_))))
   ·exact out ds rfl r4 r0 rfl r25 r26 (by
     have : ¬ (48 ≤ x.toNat) := by omega
     simp [cM,this])
   ·refine out ds rfl r4 r0 rfl r25 r26 ?_
    have h48 : 48 ≤ x.toNat := by omega
    simp only [cM,decide_eq_true h48,Bool.true_and]
    rw [← decide_not]
    congr 1
    exact propext ⟨fun h => by omega,fun h => by omega⟩
  ·have hid : i = d.length := by omega
   subst hid
   rw [List.take_length] at hall hbd
   simp only [List.take_length]
   exact ao (by simp [unk]) (k1 hall)
theorem good96 (hJ : Closed prog main J) {d : List UInt8} (k1 : ∀ n,unsB d = some n → K (.tuple ⟨[ab n,.bool true]⟩) H) (k2 : unsB d = none → K (.tuple ⟨[ab 0,.bool false]⟩) H) (hs : d.length ≤ 2000) : Good prog J 96 [ay d] H K := by
 refine g96 hJ fun ok => ?_
 rw [e96]
 unfold unsB digsOk at k1 k2
 have k1 : ∀ pre,pre = (decide (1 ≤ d.length) && decide (d.length ≤ 3) && !(d.head? == some 48 && (false || decide (1 < d.length)))) → (pre && d.all cM) = true → K (.tuple ⟨[ab (valB d),.bool true]⟩) H := fun pre e h => k1 _ (by rw [← e,if_pos h])
 have k2 : ∀ pre,pre = (decide (1 ≤ d.length) && decide (d.length ≤ 3) && !(d.head? == some 48 && (false || decide (1 < d.length)))) → (pre && d.all cM) = false → K (.tuple ⟨[ab 0,.bool false]⟩) H := fun pre e h => k2 (by rw [← e,if_neg (by simp [h])])
 have go : ∀ {F : RG} (pre : Bool),F.ds = [] → F.r 0 = ay d → F.r 23 = .bool (!pre) → pre = (decide (1 ≤ d.length) && decide (d.length ≤ 3) && !(d.head? == some 48 && (false || decide (1 < d.length)))) → _ := fun {F} pre ds r0 r23 hp =>
  num_1 (n0 := H.length) (F := F) hJ ds r0 r23 (fun h => by
   rw [h] at hp
   have := hp.symm
   simp only [Bool.and_eq_true,decide_eq_true_eq] at this
   omega) (k1 pre hp) (k2 pre hp)
 refine di (dh (ba (fun h => hold.2 ?_) fun h1 => di (gtrI (ba (fun h => hold.2 ?_) fun h3 => ?_))))
 ·exact go false rfl rfl rfl (by rw [decide_eq_false (by omega : ¬ 1 ≤ d.length)]; rfl)
 ·exact go false rfl rfl rfl (by rw [decide_eq_false (by omega : ¬ d.length ≤ 3),Bool.and_false]; rfl)
 ·cases d with
  | nil => exact absurd (by simp) h1
  | cons x r =>
   have e1 : decide (1 ≤ (x :: r).length) = true := decide_eq_true (by simp)
   have e3 : decide ((x :: r).length ≤ 3) = true := decide_eq_true (by omega)
   rw [e1,e3] at go
   simp only [Bool.true_and,List.head?_cons,Bool.false_or] at go
   refine idS (j := 0) (b := x) rfl (eqU48 (ba (fun hx => ?_) fun hx => hold.2 ?_))
   ·subst hx
    refine di (gtrI (hold.2 (go (!decide (1 < (48 :: r : List UInt8).length)) rfl rfl ?_ (by simp))))
    rw [Bool.not_not]
    show Value.bool _ = Value.bool _
    congr 1
    exact decide_eq_decide.2 ⟨fun h => by omega,fun h => by omega⟩
   ·exact go true rfl rfl rfl (by
     have : (some x == some (48 : UInt8)) = false := by simpa using hx
     rw [this]
     rfl)
def putC : List Value → Nat → List Int → List Value
 | cs,_,[] => cs
 | cs,o,x :: xs => putC (cs.set o (ab x)) (o + 1) xs
def ptrsAt (b o n : Nat) : List Value := (List.range n).map fun j => ptr b (o + j)
theorem ptrsAt_get {b o n j : Nat} (h : j < n) : (ptrsAt b o n)[j]? = some (ptr b (o + j)) := by
 simp [ptrsAt,h]
def FilI (H2 : List af) (ns w : List (List UInt8)) (cs : List Value) (p q1 q2 b o sz : Nat) (x : Nat × List Value) (F : RG) (H' : List af) : Prop :=
 x.1 ≤ ns.length ∧ F.ds = [] ∧ F.r 2 = .slice (some ⟨p,0,none⟩) ns.length ns.length ∧ F.r 7 = .slice (some ⟨q1,0,none⟩) w.length w.length ∧ F.r 23 = .slice (some ⟨q2,0,none⟩) ns.length ns.length ∧ F.r 24 = ab (ns.length : Nat) ∧ F.r 25 = ab (x.1 : Nat) ∧
  ag [b] H2 H' ∧ H'[b]? = some (.cells x.2 true sz) ∧ x.2.length = cs.length ∧ (cY ns w).map (putC cs o) = (cY (ns.drop x.1) (w.drop (2 * x.1))).map (putC x.2 (o + x.1))
set_option maxHeartbeats 1000000 in
theorem good58 (hJ : Closed prog main J) {line nm : List UInt8} (hs : line.length ≤ 2000) (hn : nm.length ≤ 2000) {b o p sz sz2 n : Nat} {cs : List Value} {wr : Bool}
  (hN : (aE 32 nm).length = n) (hb : H[b]? = some (.cells cs true sz)) (ho : o + n ≤ cs.length) (hp : H[p]? = some (.cells (ptrsAt b o n) wr sz2)) (hpb : p ≠ b)
  (k1 : ∀ xs H',cY (aE 32 nm) (aE 32 line) = some xs → ag [b] H H' → H'[b]? = some (.cells (putC cs o xs) true sz) → K (.bool true) H')
  (k2 : ∀ H',cY (aE 32 nm) (aE 32 line) = none → ag [b] H H' → K (.bool false) H') :
  Good prog J 58 [ay line,ay nm,.slice (some ⟨p,0,none⟩) n n] H K := by
 refine g58 hJ fun ok => ?_
 rw [e58]
 have hpl := parts_le 32 line
 have hpn := parts_le 32 nm
 refine good95 (c := 32) hJ hs (good95 (c := 32) hJ hn ?_)
 generalize hH1 : H ++ [af.cells ((aE 32 line).map ay) true 0] = H1
 have S1 : ag [] H H1 := by rw [← hH1]; exact ag.refl.app
 have c1 : H1[H.length]? = some (.cells ((aE 32 line).map ay) true 0) := by rw [← hH1]; simp
 generalize hH2 : H1 ++ [af.cells ((aE 32 nm).map ay) true 0] = H2
 have S2 : ag [] H1 H2 := by rw [← hH2]; exact ag.refl.app
 have c2 : H2[H1.length]? = some (.cells ((aE 32 nm).map ay) true 0) := by rw [← hH2]; simp
 have c1 := S2.get c1 (by simp)
 have S02 := S1.trans S2
 have hb2 := S02.get hb (by simp)
 have hp2 := S02.get hp (by simp)
 have hbl := ah hb
 have l1 := ah c1
 clear hH1 hH2
 generalize hw : aE 32 line = w at *
 generalize hns : aE 32 nm = ns at *
 subst hN
 refine lenSl (lenSl (mulI (by omega) (neqI (ba (fun hne => ?_) fun heq => lenSl ?_))))
 ·refine ao (by simp [unk]) (k2 _ ?_ S02.bN)
  cases hf : cY ns w with
  | none => rfl
  | some xs =>
   have := (fillW_len hf).1
   omega
 ·have hwl : w.length = 2 * ns.length := by omega
  refine l58_1 hJ (S := Nat × List Value) (fun x => ns.length + 1 - x.1) (FilI H2 ns w cs p H.length H1.length b o sz) ?_ (s := (0,cs))
   (.inl ⟨Nat.zero_le _,rfl,rfl,rfl,rfl,rfl,rfl,ag.refl,hb2,rfl,rfl⟩)
  rintro ⟨i,ci⟩ F H' ⟨hi,ds,r2,r7,r23,r24,r25,S,cb,hlen,hfill⟩ ok' hn'
  simp only at hi r25 cb hlen hfill
  rw [s58_1]
  simp only [ds,r7,r23,r24,r25]
  have SH : ag [b] H H' := S02.bN.trans S
  have cw : H'[H.length]? = some (.cells (w.map ay) true 0) := S.get c1 (by simp; omega)
  have cn : H'[H1.length]? = some (.cells (ns.map ay) true 0) := S.get c2 (by have := S1.1; simp; omega)
  have cp : H'[p]? = some (.cells (ptrsAt b o ns.length) wr sz2) := S.get hp2 (by simp; omega)
  refine dh (ba (fun hlt => ?_) fun hge => ?_)
  ·have hil : i < ns.length := by omega
   obtain ⟨nmi,hnm⟩ : ∃ x,ns[i]? = some x := ⟨_,List.getElem?_eq_getElem hil⟩
   obtain ⟨a,ha⟩ : ∃ x,w[2 * i]? = some x := ⟨_,List.getElem?_eq_getElem (by omega)⟩
   obtain ⟨d,hd⟩ : ∃ x,w[2 * i + 1]? = some x := ⟨_,List.getElem?_eq_getElem (by omega)⟩
   have hst := fillW_step hnm ha hd
   rw [hst] at hfill
   have hdl : d.length ≤ 2000 := by
    have := partsB_len (c := 32) line d (by rw [hw]; exact List.mem_of_getElem? hd)
    omega
   have gw : ∀ {j : Nat} {x : List UInt8},w[j]? = some x → (w.map ay)[0 + (j : Int).toNat * 1]? = some (ay x) := fun {j x} h => by
    rw [Int.toNat_natCast,Nat.mul_one,Nat.zero_add,List.getElem?_map,h]
    rfl
   have gn : (ns.map ay)[0 + (i : Int).toNat * 1]? = some (ay nmi) := by
    rw [Int.toNat_natCast,Nat.mul_one,Nat.zero_add,List.getElem?_map,hnm]
    rfl
   refine idxI ⟨by omega,by omega⟩ (ldI (v := ay nmi) cn gn rfl (mulI (by omega) (ck (by omega) ?_)))
   rw [show (2 : Int) * (i : Int) + 1 = ((2 * i + 1 : Nat) : Int) by omega]
   refine idxI ⟨by omega,by omega⟩ (ldI (v := ay d) cw (gw hd) rfl ?_)
   -- a line that is not as said
   have out : ∀ {F : RG} {q : Bool} {x : Int},F.ds = [] → F.r 50 = .bool q → F.r 2 = .slice (some ⟨p,0,none⟩) ns.length ns.length → F.r 7 = .slice (some ⟨H.length,0,none⟩) w.length w.length → F.r 23 = .slice (some ⟨H1.length,0,none⟩) ns.length ns.length → F.r 24 = ab (ns.length : Nat) → F.r 25 = ab (i : Nat) → F.r 9 = ab (i : Nat) → F.r 11 = ab x →
     (q = true → cY ns w = none) → (q = false → a = nmi ∧ unsB d = some x) → _ := fun {F q x} ds r50 r2 r7 r23 r24 r25 r9 r11 hq1 hq2 => show w58 J H.length yp15 F H' [Nx H.length (fun x : Nat × List Value => ns.length + 1 - x.1) (FilI H2 ns w cs p H.length H1.length b o sz) (i,ci)] K by
    rw [s58_2]
    simp only [ds,r50,r2,r9,r11,r25]
    cases q with
    | true => exact bm.2 (ao (by simp [unk]) (k2 _ (hq1 rfl) SH))
    | false =>
     obtain ⟨hai,hui⟩ := hq2 rfl
     rw [if_pos hai,hui,Option.bind_some,Option.map_map] at hfill
     refine aP.2 (idxI ⟨by omega,by omega⟩ (ldI (v := ptr b (o + i)) cp (by rw [Int.toNat_natCast,Nat.mul_one,Nat.zero_add]; exact ptrsAt_get hil) rfl (ec (qSt (v := ab x) cb (by omega) rfl rfl fun H3 S3 c3 l3 => ck (by omega) ⟨(i + 1,ci.set (o + i) (ab x)),by dsimp only; omega,.inl ⟨hil,ds,r2,r7,r23,r24,rfl,S.trans S3,c3,by simpa using hlen,hfill⟩⟩))))
   refine good96 hJ (fun x hx => ?_) (fun hx => ?_) hdl
   ·refine ext0 (ext1 (dU (aP.2 (mulI (by omega) ?_))))
    rw [show (2 : Int) * (i : Int) = ((2 * i : Nat) : Int) by omega]
    refine idxI ⟨by omega,by omega⟩ (ldI (v := ay a) cw (gw ha) rfl (neS (hold.2 ?_)))
    refine out (q := decide (a ≠ nmi)) (x := x) ds rfl r2 r7 r23 r24 r25 rfl rfl (fun h => ?_) fun h => ?_
    ·have hne : ¬ a = nmi := of_decide_eq_true h
     rw [if_neg hne] at hfill
     simpa using hfill
    ·exact ⟨Decidable.not_not.1 (of_decide_eq_false h),hx⟩
   ·refine ext0 (ext1 (dU (bm.2 (hold.2 ?_))))
    refine out (q := true) (x := 0) ds rfl r2 r7 r23 r24 r25 rfl rfl (fun _ => ?_) fun h => by cases h
    rw [hx] at hfill
    simpa using hfill
  ·have hie : i = ns.length := by omega
   subst hie
   rw [List.drop_length,← hwl,List.drop_length] at hfill
   refine ao (by simp [unk]) ?_
   cases hf : cY ns w with
   | none =>
    rw [hf] at hfill
    cases hfill
   | some xs =>
    rw [hf] at hfill
    have hfill : putC cs o xs = ci := by simpa [cY,putC] using hfill
    exact k1 xs H' hf SH (by rw [hfill]; exact cb)
end
end Go.Proofs.YtlhanfcgdfjhjaaGreatDoor
namespace Go.Proofs.YtlhanfcgdfjhjaaGreatDoor
open Go.Conc Go.Proofs.Tryz
set_option maxRecDepth 100000
set_option maxHeartbeats 4000000
set_option linter.unusedVariables false
section
variable {main : Bool} {J : JT} {n0 : Nat} {h : List af} {K : Value → List af → Prop}
theorem at33 : prog.funcs[33]? = some f33 := by kernel_rfl
theorem body33 : f33.body = some (codeOf f33) := by kernel_rfl
def pl33 : bj := []
def ct33 : bB := .bin (.go) (.bin (.go) (.bin (.bin (.go) (.un (.un (.bin (.go) (.bin (.go) (.bin (.un (.bin (.go) (.bin (.go) (.bin (.bin (.go) (.cut (.go))) (.go))))) (.go))))))) (.go)))
theorem pok33 : aC prog pl33 (codeOf f33) = true := by kernel_rfl
abbrev w33 (J : JT) (n0 : Nat) (p : List Nat) (f : RG) (h : List af) (l : List (RG → List af → Prop)) (K : Value → List af → Prop) : Prop := W prog J 44 n0 33 (aw p (codeOf f33)) f h (aA pl33 prog J 44 n0 33 ct33 p (codeOf f33) l (aq prog [.tmp 4] n0 K))
theorem e33 {a0 a1 : Value} : W prog J 44 h.length 33 (codeOf f33) (RG.mk (ax [a0,a1]) []) h (aq prog [.tmp 4] h.length K) =
(cq a0 h fun v1 h2 =>
aMkF 57 [] [v1] fun v3 =>
aMkF 59 [] [v1] fun v4 =>
aMkF 60 [] [v1] fun v5 =>
aH [(Value.nilFunc),(Value.nilFunc),(Value.nilFunc)] [(0,1,v3),(1,1,v4),(2,1,v5)] fun c6 =>
bo [(Value.nilFunc),(Value.nilFunc),(Value.nilFunc)] h2 fun v7 h8 =>
aB 3 v7 (Value.agg ⟨c6⟩) h8 fun h9 =>
ai true 3 v7 h9 fun v10 =>
Sem J 44 h.length 33 (aw yp0 (codeOf f33)) ((((((((((RG.mk (ax [a0,a1]) []).p 2 v1).p 4 (Value.nilIface)).p 11 v3).p 12 v4).p 13 v5).p 14 (Value.agg ⟨c6⟩)).p 5 v7).p 15 v10).p 16 (ab 0)) h9 (aA pl33 prog J 44 h.length 33 ct33 yp0 (codeOf f33) [] (aq prog [.tmp 4] h.length K))) := aT pok33 ct33 (by kernel_rfl)
theorem g33 (hJ : Closed prog main J) {a0 a1 : Value} (hs : aD h → W prog J 44 h.length 33 (codeOf f33) (RG.mk (ax [a0,a1]) []) h (aq prog [.tmp 4] h.length K)) : Good prog J 33 [a0,a1] h K :=
 az hJ mixed at33 body33 (by kernel_rfl) (Nat.le_of_ble_eq_true rfl) hs
theorem s33_1 {f : RG} {nx0 : RG → List af → Prop} : W prog J 44 n0 33 (aw yp2 (codeOf f33)) f h (bc nx0 (aA pl33 prog J 44 n0 33 ct33 yp0 (codeOf f33) [] (aq prog [.tmp 4] n0 K))) =
(aj prog .lss 3 (f.r 16) (ab 3) fun v1 =>
cnd v1
(aIdxV 3 1 false (f.r 15) (f.r 16) fun v2 =>
Good prog J 61 [(f.r 1),(Value.string { data := #[10] })] h fun v3 h4 =>
bL v3 0 fun v5 =>
bL v3 1 fun v6 =>
bL v3 2 fun v7 =>
aUn .not v7 fun v8 =>
cnd v8
(bh (w33 J n0 yp16 (((((((((((((((((((((((f.p 17 v1).p 18 (f.r 16)).p 19 v2).p 6 (f.r 16)).p 7 v2).p 21 (f.r 1)).p 22 v3).p 20 v3).p 23 v5).p 24 v6).p 25 v7).p 8 v5).p 9 v6).p 10 v7).p 26 v7).p 27 v8).p 28 v8).p 28 (Value.bool true)).p 29 undef).p 30 undef).p 31 undef).p 32 undef).p 33 (Value.bool true)) h4 [nx0] K))
(dC prog (Good prog J) v2 [v5] h4 fun v9 h10 =>
aUn .not v9 fun v11 =>
bh (w33 J n0 yp16 (((((((((((((((((((((((f.p 17 v1).p 18 (f.r 16)).p 19 v2).p 6 (f.r 16)).p 7 v2).p 21 (f.r 1)).p 22 v3).p 20 v3).p 23 v5).p 24 v6).p 25 v7).p 8 v5).p 9 v6).p 10 v7).p 26 v7).p 27 v8).p 28 v8).p 28 (Value.bool false)).p 29 v2).p 30 v5).p 31 v9).p 32 v11).p 33 v11) h10 [nx0] K)))
(aj prog .neq 9 (f.r 1) (Value.string { data := #[] }) fun v12 =>
cnd v12
(aH [(ab 0)] [(0,1,(ab 4))] fun c13 =>
aMkI prog 73 (Value.agg ⟨c13⟩) fun v14 =>
aI n0 K f.ds [v14] h)
(aI n0 K f.ds [(Value.nilIface)] h))) := sub_eq pok33 ct33 (by kernel_rfl)
theorem l33_1 (hJ : Closed prog main J) {S : Type} (μ : S → Nat) (I : S → RG → List af → Prop) (hI : ∀ s f h,I s f h → aD h → n0 ≤ h.length → W prog J 44 n0 33 (aw yp2 (codeOf f33)) f h (bc (Nx n0 μ I s) (aA pl33 prog J 44 n0 33 ct33 yp0 (codeOf f33) [] (aq prog [.tmp 4] n0 K))))
 {s : S} {f : RG} (hi : dJ n0 I s f h) : Sem J 44 n0 33 (aw yp0 (codeOf f33)) f h (aA pl33 prog J 44 n0 33 ct33 yp0 (codeOf f33) [] (aq prog [.tmp 4] n0 K)) :=
 bn hJ mixed (b := aw yp2 (codeOf f33)) (by kernel_rfl) μ I hI hi
theorem s33_2 {f : RG} {nx0 : RG → List af → Prop} : w33 J n0 yp16 f h [nx0] K =
(cnd (f.r 33)
(aj prog .add 3 (f.r 6) (ab 1) fun v1 =>
aH [(ab 0)] [(0,1,v1)] fun c2 =>
aMkI prog 73 (Value.agg ⟨c2⟩) fun v3 =>
aI n0 K f.ds [v3] h)
(aj prog .add 3 (f.r 16) (ab 1) fun v4 =>
nx0 ((((f.p 38 (f.r 9)).p 1 (f.r 9)).p 39 v4).p 16 v4) h)) := sub_eq pok33 ct33 (by kernel_rfl)
theorem at12 : prog.funcs[12]? = some f12 := by kernel_rfl
theorem body12 : f12.body = some (codeOf f12) := by kernel_rfl
def pl12 : bj := [(7,false,.take 0 (.take 1 (.take 2 (.take 3 (.last 4 true (.last 5 true (.take 6 (.take 7 (.fin))))))))),
 (8,false,.take 0 (.take 1 (.take 3 (.take 4 (.last 2 true (.last 5 true (.last 6 true (.last 7 true (.take 8 (.fin)))))))))),
 (11,false,.take 0 (.take 1 (.take 2 (.take 3 (.last 4 true (.last 5 false (.take 6 (.take 7 (.fin)))))))))]
def ct12 : bB := .go
theorem pok12 : aC prog pl12 (codeOf f12) = true := by kernel_rfl
theorem e12 {a0 : Value} : W prog J 41 h.length 12 (codeOf f12) (RG.mk (ax [a0]) []) h (aq prog [.cell 2 23,.cell 3 25,.tmp 4,.tmp 5] h.length K) =
(bo [(ab 0),(ab 0),(ab 0),(ab 0),(ab 0),(ab 0)] h fun v1 h2 =>
bo [(ab 0),(ab 0),(ab 0)] h2 fun v3 h4 =>
bA a0 fun v5 =>
aj prog .gtr 3 v5 (ab 120) fun v6 =>
cnd v6
(aH [(ab 0),(ab 0),(ab 0),(ab 0),(ab 0),(ab 0)] [] fun c7 =>
aH [(ab 0),(ab 0),(ab 0)] [] fun c8 =>
aB 6 v1 (Value.agg ⟨c7⟩) h4 fun h9 =>
aB 3 v3 (Value.agg ⟨c8⟩) h9 fun h10 =>
aq prog [.cell 2 23,.cell 3 25,.tmp 4,.tmp 5] h.length K .ret ((((((((((((RG.mk (ax [a0]) []).p 2 v1).p 3 v3).p 4 (ab 0)).p 5 (ab 0)).p 10 a0).p 11 v5).p 12 v6).p 13 (Value.agg ⟨c7⟩)).p 14 (Value.agg ⟨c8⟩)).p 4 (ab 0)).p 5 (ab 10)) h10)
(bo [(ab 0),(ab 0),(ab 0),(ab 0),(ab 0),(ab 0),(ab 0),(ab 0),(ab 0)] h4 fun v11 h12 =>
bo [(ab 0)] h12 fun v13 h14 =>
Good prog J 33 [v11,a0] h14 fun v15 h16 =>
aMkI prog 78 v13 fun v17 =>
Good prog J 34 [v15,v17] h16 fun v18 h19 =>
cnd v18
((∃ B,aH [(ab 0),(ab 0),(ab 0),(ab 0),(ab 0),(ab 0)] [] fun c20 =>
aH [(ab 0),(ab 0),(ab 0)] [] fun c21 =>
aL v13 0 fun v22 =>
ai false 1 v22 h19 fun v23 =>
aR (some B) (au v22) ∧ (aB 6 v1 (Value.agg ⟨c20⟩) h19 fun h24 =>
aG (some B) h19 h24 ∧ (aB 3 v3 (Value.agg ⟨c21⟩) h24 fun h25 =>
aG (some B) h19 h25 ∧ (aq prog [.cell 2 23,.cell 3 25,.tmp 4,.tmp 5] h.length K .ret ((((((((((((((((((((((RG.mk (ax [a0]) []).p 2 v1).p 3 v3).p 4 (ab 0)).p 5 (ab 0)).p 10 a0).p 11 v5).p 12 v6).p 6 v11).p 7 v13).p 15 a0).p 16 v15).p 8 v15).p 17 v15).p 18 v17).p 19 v18).p 20 (Value.agg ⟨c20⟩)).p 21 (Value.agg ⟨c21⟩)).p 22 v22).p 23 v23).p 4 v23).p 5 (ab 2)) h25)))))
((∃ B,aL v11 0 fun v26 =>
ai true 6 v26 h19 fun v27 =>
aR (some B) (au v26) ∧ (aL v11 6 fun v28 =>
ai true 3 v28 h19 fun v29 =>
aR (some B) (au v28) ∧ (Good prog J 27 [v27] h19 fun v30 h31 =>
aG (some B) h19 h31 ∧ (Good prog J 28 [v29] h31 fun v32 h33 =>
aG (some B) h19 h33 ∧ ((((2 * 1 : Nat) ≤ 16777216 ∧ (2 : Nat) ≤ 16777216 ∧ List.length [(ab 0)] = 1) ∧ aH (aV [(ab 0)] 2) [(0,1,v30),(1,1,v32)] fun c34 =>
aX 2 c34 h33 fun v35 h36 =>
aG (some B) h19 h36 ∧ (Good prog J 26 [v35] h36 fun v37 h38 =>
aG (some B) h19 h38 ∧ (aj prog .neq 35 v37 (ab 0) fun v39 =>
cnd v39
(aH [(ab 0),(ab 0),(ab 0),(ab 0),(ab 0),(ab 0)] [] fun c40 =>
aH [(ab 0),(ab 0),(ab 0)] [] fun c41 =>
aB 6 v1 (Value.agg ⟨c40⟩) h38 fun h42 =>
aB 3 v3 (Value.agg ⟨c41⟩) h42 fun h43 =>
aq prog [.cell 2 23,.cell 3 25,.tmp 4,.tmp 5] h.length K .ret ((((((((((((((((((((((((((((((((RG.mk (ax [a0]) []).p 2 v1).p 3 v3).p 4 (ab 0)).p 5 (ab 0)).p 10 a0).p 11 v5).p 12 v6).p 6 v11).p 7 v13).p 15 a0).p 16 v15).p 8 v15).p 17 v15).p 18 v17).p 19 v18).p 24 v26).p 25 v27).p 27 v28).p 28 v29).p 26 v30).p 29 v32).p 30 v35).p 31 v37).p 9 v37).p 32 v37).p 33 v39).p 34 (Value.agg ⟨c40⟩)).p 35 (Value.agg ⟨c41⟩)).p 36 v37).p 4 (ab 0)).p 5 v37) h43)
((∃ B,aL v11 0 fun v44 =>
ai true 6 v44 h38 fun v45 =>
aR (some B) (au v44) ∧ (aL v11 6 fun v46 =>
ai true 3 v46 h38 fun v47 =>
aR (some B) (au v46) ∧ (aB 6 v1 v45 h38 fun h48 =>
aG (some B) h38 h48 ∧ (aB 3 v3 v47 h48 fun h49 =>
aq prog [.cell 2 23,.cell 3 25,.tmp 4,.tmp 5] h.length K .ret (((((((((((((((((((((((((((((((((RG.mk (ax [a0]) []).p 2 v1).p 3 v3).p 4 (ab 0)).p 5 (ab 0)).p 10 a0).p 11 v5).p 12 v6).p 6 v11).p 7 v13).p 15 a0).p 16 v15).p 8 v15).p 17 v15).p 18 v17).p 19 v18).p 24 v26).p 25 v27).p 27 v28).p 28 v29).p 26 v30).p 29 v32).p 30 v35).p 31 v37).p 9 v37).p 32 v37).p 33 v39).p 37 v44).p 38 v45).p 39 v46).p 40 v47).p 4 (ab 0)).p 5 (ab 0)) h49)))))))))))))))) := aT pok12 ct12 (by kernel_rfl)
theorem g12 (hJ : Closed prog main J) {a0 : Value} (hs : aD h → W prog J 41 h.length 12 (codeOf f12) (RG.mk (ax [a0]) []) h (aq prog [.cell 2 23,.cell 3 25,.tmp 4,.tmp 5] h.length K)) : Good prog J 12 [a0] h K :=
 az hJ mixed at12 body12 (by kernel_rfl) (Nat.le_of_ble_eq_true rfl) hs
end
end Go.Proofs.YtlhanfcgdfjhjaaGreatDoor
namespace Go.Proofs.YtlhanfcgdfjhjaaGreatDoor
open Go.Conc Go.Proofs.Tryz
set_option maxRecDepth 100000
def linesG : Nat → List (List UInt8) → Option (List Int)
 | 0,_ => some []
 | i + 1,P => (linesG i P).bind fun a => (dY i P).map (a ++ ·)
def offG : Nat → Nat
 | 0 => 0
 | 1 => 4
 | 2 => 6
 | _ => 9
theorem lineG_len {i : Nat} {P : List (List UInt8)} {xs : List Int} (hi : i < 3) (h : dY i P = some xs) : offG i + xs.length = offG (i + 1) := by
 have := (fillW_len (lineG_some h).2).2
 rw [this]
 match i,hi with
 | 0,_ => rfl
 | 1,_ => rfl
 | 2,_ => rfl
theorem linesG_bad {i : Nat} {s : List UInt8} {xs : List Int} (hi : i < 3) (h : linesG i (aE 10 s) = some xs) (hl : dY i (aE 10 s) = none) : readG s = .inl (i + 1) := by
 unfold readG
 match i,hi with
 | 0,_ => rw [hl]
 | 1,_ =>
  simp only [linesG,Option.bind_some] at h
  cases h0 : dY 0 (aE 10 s) with
  | none => rw [h0] at h; cases h
  | some a => rw [hl]
 | 2,_ =>
  simp only [linesG,Option.bind_some] at h
  cases h0 : dY 0 (aE 10 s) with
  | none => rw [h0] at h; cases h
  | some a =>
   cases h1 : dY 1 (aE 10 s) with
   | none => rw [h0,h1] at h; cases h
   | some b => rw [hl]
theorem linesG_end {s : List UInt8} {xs : List Int} (h : linesG 3 (aE 10 s) = some xs) : readG s = if (aE 10 s).length = 4 ∧ (aE 10 s)[3]? = some [] then .inr xs else .inl 4 := by
 unfold readG
 simp only [linesG,Option.bind_some] at h
 cases h0 : dY 0 (aE 10 s) with
 | none => rw [h0] at h; cases h
 | some a =>
  cases h1 : dY 1 (aE 10 s) with
  | none => rw [h0,h1] at h; cases h
  | some b =>
   cases h2 : dY 2 (aE 10 s) with
   | none => rw [h0,h1,h2] at h; cases h
   | some c =>
    rw [h0,h1,h2] at h
    have : a ++ (b ++ c) = xs := by simpa using h
    rw [← this]
theorem putC_app : ∀ {ys : List Int} {A : List Value} {n : Nat} {z : Value},ys.length ≤ n → putC (A ++ List.replicate n z) A.length ys = A ++ (ys.map ab ++ List.replicate (n - ys.length) z)
 | [],A,n,z,_ => by simp [putC]
 | y :: ys,A,0,z,h => by simp at h
 | y :: ys,A,n + 1,z,h => by
  unfold putC
  rw [List.set_append_right _ _ (Nat.le_refl _),Nat.sub_self,List.replicate_succ,List.set_cons_zero]
  have := putC_app (ys := ys) (A := A ++ [ab y]) (n := n) (z := z) (by simpa using h)
  simp only [List.append_assoc,List.singleton_append,List.length_append,List.length_singleton] at this
  rw [this]
  simp
def cellsG (xs : List Int) : List Value := xs.map ab ++ List.replicate (9 - xs.length) (ab 0)
theorem cellsG_put {xs ys : List Int} (h : xs.length + ys.length ≤ 9) : putC (cellsG xs) xs.length ys = cellsG (xs ++ ys) := by
 have := putC_app (ys := ys) (A := xs.map ab) (n := 9 - xs.length) (z := ab 0) (by omega)
 unfold cellsG
 rw [List.length_map] at this
 rw [this]
 simp [Nat.sub_sub]
theorem cellsG_len {xs : List Int} (h : xs.length ≤ 9) : (cellsG xs).length = 9 := by
 simp [cellsG]
 omega
section
variable {main : Bool} {J : JT} {H : List af} {K : Value → List af → Prop} {KV : Value → Prop} {F : RG} {n0 : Nat} {s line : List UInt8} {c : UInt8}
theorem good97b (hJ : Closed prog main J) (hs : s.length ≤ 2000) (k1 : ∀ a b,s = a ++ c :: b → (∀ x ∈ a,x ≠ c) → K (.tuple ⟨[ay a,ay b,.bool true]⟩) H) (k2 : (∀ x ∈ s,x ≠ c) → K (.tuple ⟨[ay s,ay [],.bool false]⟩) H) :
  Good prog J 97 [ay s,ay [c]] H K := by
 refine g97 hJ fun ok => ?_
 rw [e97]
 refine good111a hJ ?_
 have hge := Lib.indexByte_ge s c
 by_cases hneg : Lib.indexByte s c < 0
 ·have h1 : Lib.indexByte s c = -1 := by omega
  rw [h1]
  refine geqI (ba (fun h => absurd h (by decide)) fun _ => ao (by simp [unk,ay]) (k2 (indexByte_none' hneg)))
 ·obtain ⟨i,ho⟩ : ∃ o : Nat,Lib.indexByte s c = o := ⟨(Lib.indexByte s c).toNat,by omega⟩
  obtain ⟨hcut,hno,hol⟩ := indexByte_cut ho
  rw [ho]
  refine geqI (ba (fun _ => ⟨[],di (s := [c]) ⟨trivial,ck (by simp; omega) ?_⟩⟩) fun h => absurd (Int.natCast_nonneg i) h)
  rw [show ((i : Nat) : Int) + (([c] : List UInt8).length : Int) = ((i + 1 : Nat) : Int) from rfl]
  have fin := k1 _ _ hcut hno
  exact ⟨slTo' (by omega) ⟨fun _ _ => rfl,slFr' hol ⟨fun _ _ => rfl,ao (by simp [unk,ay]) fin⟩⟩,slFr' hol ⟨fun _ _ => rfl,slTo' (by omega) ⟨fun _ _ => rfl,ao (by simp [unk,ay]) fin⟩⟩⟩
theorem good61b (hJ : Closed prog main J) (hs : s.length ≤ 2000) (k1 : ∀ a b,s = a ++ c :: b → (∀ x ∈ a,x ≠ c) → K (.tuple ⟨[ay a,ay b,.bool true]⟩) H) (k2 : (∀ x ∈ s,x ≠ c) → K (.tuple ⟨[ay s,ay [],.bool false]⟩) H) :
  Good prog J 61 [ay s,ay [c]] H K := by
 refine g61 hJ fun ok => ?_
 rw [e61]
 exact good97b hJ hs (fun a b h1 h2 => ext30 (ext31 (ext32 (ao (by simp [unk,ay]) (k1 a b h1 h2))))) fun h => ext30 (ext31 (ext32 (ao (by simp [unk,ay]) (k2 h))))
theorem sb1Z {X : List Nat} {p : Nat} {H H2 : List af} (S : ag X H H2) (hp : p < H.length) (hX : p ∉ X) : aG (some [p]) H H2 := fun b hb => by
 simp at hb
 subst hb
 exact S.2 _ hp hX
def KindK (K : Value → List af → Prop) (H : List af) (bg i : Nat) (cs : List Value) (line : List UInt8) : Prop :=
 (∀ xs H',cY (gN i) (aE 32 line) = some xs → ag [bg] H H' → H'[bg]? = some (.cells (putC cs (offG i) xs) true 0) → K (.bool true) H') ∧ (∀ H',cY (gN i) (aE 32 line) = none → ag [bg] H H' → K (.bool false) H')
variable {b2 bg : Nat} {cs : List Value}
theorem good57 (hJ : Closed prog main J) (hs : line.length ≤ 2000) (h2 : H[b2]? = some (.cells [ptr bg 0] true 0)) (hb : H[bg]? = some (.cells cs true 0)) (hne : b2 ≠ bg) (hl : cs.length = 9) (k : KindK K H bg 0 cs line) : Good prog J 57 [ay line,ptr b2 0] H K := by
 refine g57 hJ fun ok => ?_
 rw [e57]
 have l2 := ah h2
 have lb := ah hb
 have ld : ∀ {KV : Value → Prop},KV (ptr bg 0) → ai false 1 (ptr b2 0) H KV := fun hk => ldI (v := ptr bg 0) h2 rfl rfl hk
 have rd : aR (some [b2]) (au (ptr b2 0)) := by simp [aR,au]
 refine ⟨[b2],ld ⟨rd,ec (aQ (aQ (ld ⟨rd,ec (aQ (aQ (ld ⟨rd,ec (aQ (aQ (ld ⟨rd,ec (aQ (aQ ⟨by decide,?_⟩))⟩)))⟩)))⟩)))⟩⟩
 refine aK (l := [ptr bg 0]) rfl rfl rfl (Nat.le_of_ble_eq_true rfl) (aK (l := [ptr bg 1]) rfl rfl rfl (Nat.le_of_ble_eq_true rfl) (aK (l := [ptr bg 2]) rfl rfl rfl (Nat.le_of_ble_eq_true rfl) (aK (l := [ptr bg 3]) rfl rfl rfl (Nat.le_of_ble_eq_true rfl) (bu (du fun H1 p e1 S1 c1 l1 => ⟨sb1Z S1 l2 (by simp),?_⟩)))))
 have c1 : H1[p]? = some (.cells (ptrsAt bg 0 4) true 0) := c1
 have hp : aE 32 [103,114,97,115,115,32,111,102,32,103,114,111,119,115,32,116,111] = gN 0 := by kernel_rfl
 refine good58 hJ (nm := [103,114,97,115,115,32,111,102,32,103,114,111,119,115,32,116,111]) (o := 0) (b := bg) hs (by decide) (by rw [hp]; rfl) (S1.get hb (by simp)) (by omega) c1 (by omega) (fun xs H' hf S c => ?_) fun H' hf S => ?_
 ·rw [hp] at hf
  have S' : ag [bg] H H' := S1.bN.trans S
  exact ⟨sb1Z S' l2 (by simpa using hne),ao (by simp [unk]) (k.1 xs H' hf S' c)⟩
 ·rw [hp] at hf
  have S' : ag [bg] H H' := S1.bN.trans S
  exact ⟨sb1Z S' l2 (by simpa using hne),ao (by simp [unk]) (k.2 H' hf S')⟩
theorem good59 (hJ : Closed prog main J) (hs : line.length ≤ 2000) (h2 : H[b2]? = some (.cells [ptr bg 0] true 0)) (hb : H[bg]? = some (.cells cs true 0)) (hne : b2 ≠ bg) (hl : cs.length = 9) (k : KindK K H bg 1 cs line) : Good prog J 59 [ay line,ptr b2 0] H K := by
 refine g59 hJ fun ok => ?_
 rw [e59]
 have l2 := ah h2
 have lb := ah hb
 have ld : ∀ {KV : Value → Prop},KV (ptr bg 0) → ai false 1 (ptr b2 0) H KV := fun hk => ldI (v := ptr bg 0) h2 rfl rfl hk
 have rd : aR (some [b2]) (au (ptr b2 0)) := by simp [aR,au]
 refine ⟨[b2],ld ⟨rd,ec (aQ (aQ (ld ⟨rd,ec (aQ (aQ ⟨by decide,?_⟩))⟩)))⟩⟩
 refine aK (l := [ptr bg 4]) rfl rfl rfl (Nat.le_of_ble_eq_true rfl) (aK (l := [ptr bg 5]) rfl rfl rfl (Nat.le_of_ble_eq_true rfl) (bu (du fun H1 p e1 S1 c1 l1 => ⟨sb1Z S1 l2 (by simp),?_⟩)))
 have c1 : H1[p]? = some (.cells (ptrsAt bg 4 2) true 0) := c1
 have hp : aE 32 [98,101,108,111,119,32,115,108,101,101,112,115] = gN 1 := by kernel_rfl
 refine good58 hJ (nm := [98,101,108,111,119,32,115,108,101,101,112,115]) (o := 4) (b := bg) hs (by decide) (by rw [hp]; rfl) (S1.get hb (by simp)) (by omega) c1 (by omega) (fun xs H' hf S c => ?_) fun H' hf S => ?_
 ·rw [hp] at hf
  have S' : ag [bg] H H' := S1.bN.trans S
  exact ⟨sb1Z S' l2 (by simpa using hne),ao (by simp [unk]) (k.1 xs H' hf S' c)⟩
 ·rw [hp] at hf
  have S' : ag [bg] H H' := S1.bN.trans S
  exact ⟨sb1Z S' l2 (by simpa using hne),ao (by simp [unk]) (k.2 H' hf S')⟩
theorem good60 (hJ : Closed prog main J) (hs : line.length ≤ 2000) (h2 : H[b2]? = some (.cells [ptr bg 0] true 0)) (hb : H[bg]? = some (.cells cs true 0)) (hne : b2 ≠ bg) (hl : cs.length = 9) (k : KindK K H bg 2 cs line) : Good prog J 60 [ay line,ptr b2 0] H K := by
 refine g60 hJ fun ok => ?_
 rw [e60]
 have l2 := ah h2
 have lb := ah hb
 have ld : ∀ {KV : Value → Prop},KV (ptr bg 0) → ai false 1 (ptr b2 0) H KV := fun hk => ldI (v := ptr bg 0) h2 rfl rfl hk
 have rd : aR (some [b2]) (au (ptr b2 0)) := by simp [aR,au]
 refine ⟨[b2],ld ⟨rd,ec (aQ (aQ (ld ⟨rd,ec (aQ (aQ (ld ⟨rd,ec (aQ (aQ ⟨by decide,?_⟩))⟩)))⟩)))⟩⟩
 refine aK (l := [ptr bg 6]) rfl rfl rfl (Nat.le_of_ble_eq_true rfl) (aK (l := [ptr bg 7]) rfl rfl rfl (Nat.le_of_ble_eq_true rfl) (aK (l := [ptr bg 8]) rfl rfl rfl (Nat.le_of_ble_eq_true rfl) (bu (du fun H1 p e1 S1 c1 l1 => ⟨sb1Z S1 l2 (by simp),?_⟩))))
 have c1 : H1[p]? = some (.cells (ptrsAt bg 6 3) true 0) := c1
 have hp : aE 32 [115,107,121,32,100,114,121,32,119,101,116] = gN 2 := by kernel_rfl
 refine good58 hJ (nm := [115,107,121,32,100,114,121,32,119,101,116]) (o := 6) (b := bg) hs (by decide) (by rw [hp]; rfl) (S1.get hb (by simp)) (by omega) c1 (by omega) (fun xs H' hf S c => ?_) fun H' hf S => ?_
 ·rw [hp] at hf
  have S' : ag [bg] H H' := S1.bN.trans S
  exact ⟨sb1Z S' l2 (by simpa using hne),ao (by simp [unk]) (k.1 xs H' hf S' c)⟩
 ·rw [hp] at hf
  have S' : ag [bg] H H' := S1.bN.trans S
  exact ⟨sb1Z S' l2 (by simpa using hne),ao (by simp [unk]) (k.2 H' hf S')⟩
def fnG (b2 g : Nat) : Value := .func (.func g) ⟨[]⟩ ⟨[ptr b2 0]⟩
def fnsG (b2 : Nat) : List Value := [fnG b2 57,fnG b2 59,fnG b2 60]
theorem callG (hJ : Closed prog main J) {i : Nat} {f : Value} (hi : i < 3) (hf : (fnsG b2)[i]? = some f) (hs : line.length ≤ 2000) (h2 : H[b2]? = some (.cells [ptr bg 0] true 0)) (hb : H[bg]? = some (.cells cs true 0)) (hne : b2 ≠ bg) (hl : cs.length = 9) (k : KindK K H bg i cs line) :
  dC prog (Good prog J) f [ay line] H K := by
 match i,hi,hf with
 | 0,_,hf =>
  cases hf
  exact callCz (cap := [ptr b2 0]) (by kernel_rfl) (good57 hJ hs h2 hb hne hl k)
 | 1,_,hf =>
  cases hf
  exact callCz (cap := [ptr b2 0]) (by kernel_rfl) (good59 hJ hs h2 hb hne hl k)
 | 2,_,hf =>
  cases hf
  exact callCz (cap := [ptr b2 0]) (by kernel_rfl) (good60 hJ hs h2 hb hne hl k)
theorem idx3Z {cs : List Value} {k : Nat} {v : Value} (h3 : k < 3) (hv : cs[k]? = some v) (hk : KV v) : aIdxV 3 1 false (.agg ⟨cs⟩) (ab (k : Nat)) KV := by
 refine ⟨⟨by omega,by omega⟩,?_⟩
 show (match cs[(k : Int).toNat * 1]? with
  | some v => KV v
  | none => False)
 rw [Int.toNat_natCast,Nat.mul_one,hv]
 exact hk
theorem mkF1 {g b : Nat} (hk : KV (fnG b g)) : aMkF g [] [ptr b 0] KV := ⟨rfl,hk⟩
def PgI (s : List UInt8) (H3 : List af) (bg b2 : Nat) (x : Nat × List UInt8 × List Int) (F : RG) (H' : List af) : Prop :=
 x.1 ≤ 3 ∧ F.ds = [] ∧ F.r 1 = ay x.2.1 ∧ F.r 15 = .agg ⟨fnsG b2⟩ ∧ F.r 16 = ab (x.1 : Nat) ∧ ag [bg] H3 H' ∧ H'[bg]? = some (.cells (cellsG x.2.2) true 0) ∧ linesG x.1 (aE 10 s) = some x.2.2 ∧ x.2.2.length = offG x.1 ∧
  x.2.1.length ≤ s.length ∧ ∃ dn : List (List UInt8),dn.length = x.1 ∧ aE 10 s = dn ++ aE 10 x.2.1
set_option maxHeartbeats 1000000 in
theorem good33 (hJ : Closed prog main J) (hs : s.length ≤ 1000) (hb : H[bg]? = some (.cells (cellsG []) true 0))
  (k1 : ∀ (i : Nat) H',readG s = .inl i → ag [bg] H H' → K (.iface 73 (.agg ⟨[ab (i : Int)]⟩)) H')
  (k2 : ∀ xs H',readG s = .inr xs → xs.length = 9 → ag [bg] H H' → H'[bg]? = some (.cells (xs.map ab) true 0) → K .nilIface H') : Good prog J 33 [ptr bg 0,ay s] H K := by
 refine g33 hJ fun ok => ?_
 rw [e33]
 have lb := ah hb
 refine qBox1 (v := ptr bg 0) rfl rfl fun H1 b2 e1 S1 c1 l1 => mkF1 (mkF1 (mkF1 ?_))
 refine aK (l := [fnG b2 57]) rfl rfl rfl (Nat.le_of_ble_eq_true rfl) (aK (l := [fnG b2 59]) rfl rfl rfl (Nat.le_of_ble_eq_true rfl) (aK (l := [fnG b2 60]) rfl rfl rfl (Nat.le_of_ble_eq_true rfl) (bu ?_)))
 refine qAl fun H2 b7 e2 S2 c2 l2 => da (c := fnsG b2) c2 rfl rfl rfl fun H3 S3 c3 l3 => ar (c := fnsG b2) c3 (Nat.le_of_ble_eq_true rfl) rfl rfl ?_
 have S03 : ag [] H H3 := (S1.trans S2).bq S3 (by have := S1.1; simp; omega)
 have S13 : ag [] H1 H3 := S2.bq S3 (by simp; omega)
 have c13 := S13.get c1 (by simp)
 have hb3 := S03.get hb (by simp)
 have hne : b2 ≠ bg := by omega
 refine l33_1 hJ (S := Nat × List UInt8 × List Int) (fun x => 4 - x.1) (PgI s H3 bg b2) ?_ (s := (0,s,[]))
  (.inl ⟨Nat.zero_le _,rfl,rfl,rfl,rfl,ag.refl,hb3,rfl,rfl,Nat.le_refl _,[],rfl,rfl⟩)
 rintro ⟨i,t,xs⟩ F H' ⟨hi,ds,r1,r15,r16,S,cb,hlin,hlen,htl,dn,hdn,hP⟩ ok' hn'
 simp only at hi r1 r16 cb hlin hlen htl hdn hP
 rw [s33_1]
 simp only [ds,r1,r15,r16]
 have SH : ag [bg] H H' := S03.bN.trans S
 have c2' : H'[b2]? = some (.cells [ptr bg 0] true 0) := S.get c13 (by simpa using hne)
 have aF : ∀ {x : Int} {KV : Value → Prop},KV (.agg ⟨[ab x]⟩) → aH [ab 0] [(0,1,ab x)] fun c => KV (.agg ⟨c⟩) := fun {x KV} hk => aK (l := [ab x]) rfl rfl rfl (by decide) (bu hk)
 have aM : ∀ {x : Int} {KV : Value → Prop},KV (.iface 73 (.agg ⟨[ab x]⟩)) → aMkI prog 73 (.agg ⟨[ab x]⟩) KV := fun {x KV} hk => ⟨by simp [unk],hk⟩
 refine dh (ba (fun hlt => ?_) fun hge => ?_)
 ·have hi3 : i < 3 := by omega
  obtain ⟨f,hf⟩ : ∃ f,(fnsG b2)[i]? = some f := ⟨_,List.getElem?_eq_getElem (show i < (fnsG b2).length from hi3)⟩
  refine idx3Z hi3 hf ?_
  -- behind the line
  have out : ∀ {F : RG} {q : Bool} {r : List UInt8} {H4 : List af},F.ds = [] → F.r 33 = .bool q → F.r 6 = ab (i : Nat) → F.r 9 = ay r → F.r 15 = .agg ⟨fnsG b2⟩ → F.r 16 = ab (i : Nat) → ag [bg] H3 H4 → (q = true → readG s = .inl (i + 1)) →
    (q = false → ∃ ys,H4[bg]? = some (.cells (cellsG (xs ++ ys)) true 0) ∧ linesG (i + 1) (aE 10 s) = some (xs ++ ys) ∧ (xs ++ ys).length = offG (i + 1) ∧ r.length ≤ s.length ∧ ∃ dn : List (List UInt8),dn.length = i + 1 ∧ aE 10 s = dn ++ aE 10 r) → _ :=
   fun {F q r H4} ds r33 r6 r9 r15 r16 S4 h1 h2 => show w33 J H.length yp16 F H4 [Nx H.length (fun x : Nat × List UInt8 × List Int => 4 - x.1) (PgI s H3 bg b2) (i,t,xs)] K by
   rw [s33_2]
   simp only [ds,r33,r6,r9,r16]
   cases q with
   | true =>
    refine bm.2 (ck (by omega) (aF (KV := fun v => aMkI prog 73 v _) (aM (ao (by simp [unk]) ?_))))
    exact k1 (i + 1) H4 (h1 rfl) (S03.bN.trans S4)
   | false =>
    obtain ⟨ys,g1,g2,g3,g4,g5⟩ := h2 rfl
    exact aP.2 (ck (by omega) ⟨(i + 1,r,xs ++ ys),by dsimp only; omega,.inl ⟨hi3,ds,rfl,r15,rfl,S4,g1,g2,g3,g4,g5⟩⟩)
  refine good61b (c := 10) hJ (by omega) (fun a r hcut hno => ext30 (ext31 (ext32 (dU (aP.2 ?_))))) fun hno => ext30 (ext31 (ext32 (dU (bm.2 (hold.2 ?_)))))
  ·have hpt : aE 10 t = a :: aE 10 r := by rw [hcut,partsB_cut _ _ hno]
   have hP2 : aE 10 s = (dn ++ [a]) ++ aE 10 r := by rw [hP,hpt]; simp
   have htr : a.length + r.length < t.length := by rw [hcut]; simp
   have hget : (aE 10 s).getD i [] = a := by
    rw [hP,hpt,List.getD_eq_getElem?_getD,List.getElem?_append_right (by omega),hdn,Nat.sub_self]
    rfl
   have hPl : i + 1 < (aE 10 s).length := by
    have := List.length_pos_iff.2 (partsB_ne 10 r)
    rw [hP2]
    simp
    omega
   have hLG : dY i (aE 10 s) = cY (gN i) (aE 32 a) := by
    unfold dY
    rw [if_pos hPl,hget]
   refine callG hJ hi3 hf (by omega) c2' cb hne (cellsG_len (by rw [hlen]; match i,hi3 with | 0,_ => decide | 1,_ => decide | 2,_ => decide)) ⟨fun ys H4 hy S4 c4 => dU (hold.2 ?_),fun H4 hy S4 => dU (hold.2 ?_)⟩
   ·rw [← hLG] at hy
    have hyl := lineG_len hi3 hy
    have h9 : offG (i + 1) ≤ 9 := by match i,hi3 with | 0,_ => decide | 1,_ => decide | 2,_ => decide
    rw [← hlen,cellsG_put (by omega)] at c4
    refine out (q := false) (r := r) ds rfl rfl rfl r15 r16 (S.trans S4) (fun h => by cases h) fun _ => ⟨ys,c4,?_,by simp; omega,by omega,dn ++ [a],by simp [hdn],hP2⟩
    show (linesG i (aE 10 s)).bind _ = _
    rw [hlin,Option.bind_some,hy]
    rfl
   ·rw [← hLG] at hy
    exact out (q := true) (r := r) ds rfl rfl rfl r15 r16 (S.trans S4) (fun _ => linesG_bad hi3 hlin hy) fun h => by cases h
  ·have hpt : aE 10 t = [t] := partsB_one t hno
   refine out (q := true) (r := []) ds rfl rfl rfl r15 r16 S (fun _ => linesG_bad hi3 hlin ?_) fun h => by cases h
   unfold dY
   rw [if_neg]
   rw [hP,hpt]
   simp
   omega
 ·have hi3 : i = 3 := by omega
  subst hi3
  have hend := linesG_end hlin
  refine neS (b := []) (ba (fun hne => ?_) fun he => ?_)
  ·refine aF (KV := fun v => aMkI prog 73 v _) (aM (ao (by simp [unk]) (k1 4 H' ?_ SH)))
   rw [hend,if_neg]
   rintro ⟨h4,h3⟩
   rw [hP] at h4 h3
   match hpt : aE 10 t,partsB_ne 10 t with
   | a :: l,_ =>
    rw [hpt] at h4 h3
    rw [List.getElem?_append_right (by omega),hdn] at h3
    simp at h3
    subst h3
    have hl : l = [] := by
     have : l.length = 0 := by simp at h4; omega
     exact List.length_eq_zero_iff.1 this
    subst hl
    exact hne (by rw [join_parts t hpt]; rfl)
  ·have he : t = [] := Decidable.not_not.1 he
   subst he
   refine ao (by simp [unk]) (k2 xs H' ?_ hlen SH ?_)
   ·rw [hend,if_pos]
    have h1 : aE 10 ([] : List UInt8) = [[]] := rfl
    rw [hP,h1]
    refine ⟨by simp; omega,?_⟩
    rw [List.getElem?_append_right (by omega),hdn]
    rfl
   ·rw [cb]
    unfold cellsG
    rw [hlen]
    simp [offG]
end
end Go.Proofs.YtlhanfcgdfjhjaaGreatDoor
namespace Go.Proofs.YtlhanfcgdfjhjaaGreatDoor
open Go.Conc Go.Proofs.Tryz Go.Extern
set_option maxRecDepth 100000
noncomputable def gsz : Nat := prog.globals.size
abbrev hdl (p T : Nat) : Value := ptr p T
abbrev rtV (p T : Nat) : Value := .iface 176 (.agg ⟨[hdl p T]⟩)
abbrev rvV (p T q : Nat) (fl : Int) : Value := .agg ⟨[hdl p T,ptr q 0,.int .u64 fl]⟩
def bJ (H : List af) (p : Nat) : Prop := H[p]? = some (.place gsz)
theorem bC.to {α : Type} {P : Program} {X : Event → Prop} {s : Go.Sem α} {w w' : World} {v : α} {Q : α → World → Prop} (h : bC P s w v w' []) (hq : Q v w') : aa P X s w Q := fun es he => by
 refine ⟨v,w',es,?_,he,hq⟩
 have := h es
 simpa using this
section
variable {main : Bool} {J : JT} {H : List af} {K : Value → List af → Prop} {ρ : Env} {FC : Frm} {w : World} {ft : aJ}
theorem place_blk (R : aN ρ H FC w ft) {p : Nat} (hp : bJ H p) : ρ.blk p = gsz := R.obj p _ hp
theorem arg_val {n : Nat} {v c : Value} (h : cS n ρ v c) (hu : v ≠ unk) : c = ren ρ v := (h.resolve_left hu).2
theorem goes_place {ρ' : Env} {h' : List af} {w' : World} {t : Nat} (G : bM (ρ.put H.length t 0) (H ++ [.place t]) FC w ft ρ' h' w') : bM ρ H FC w ft ρ' h' w' :=
 ⟨G.rel,Env.bG (Env.cf ρ H.length t 0) fun b hb => G.upto b (by simp; omega),by have := G.len; simp at this; omega,G.stays⟩
theorem good62 (hJ : Closed prog main J) {T : Nat} {fl : Int} {v : Value} {l : List Value} (hv : VOk H.length v) (hl : ∀ x ∈ l,VOk H.length x ∧ one x = true) (hcl : ∀ ρ,(ren ρ v).cells = ⟨l.map (ren ρ)⟩)
  (hx : ∀ (u : Value) (w : World),bC prog (ReflectliteValue.unpack (.iface T u)) w (.agg #[.pointer (some ⟨gsz,T,none⟩),.pointer (some ⟨w.heap.size,0,none⟩),.int .u64 fl]) (w.alloc (.cells u.cells T)) [])
  (hK : K (rvV H.length T (H.length + 1) fl) (H ++ [.place gsz,.cells l true 0])) : Good prog J 62 [.iface T v] H K :=
 good_run hJ (e := fun args => ReflectliteValue.unpack (args.getD 0 (.tuple #[]))) (fn := f62) ⟨by kernel_rfl,by kernel_rfl,by kernel_rfl,by kernel_rfl,by kernel_rfl⟩ fun ρ FC w ft cargs R hr hlen => by
  match cargs,hlen with
  | [c],_ =>
   have hc := arg_val (v := .iface T v) (hr 0) (by simp [unk])
   have hup := Env.cf ρ H.length gsz 0
   have e1 : ren (ρ.put H.length gsz 0) v = ren ρ v := cN hup _ hv
   have R1 := R.place gsz
   have G := R1.alloc l T (fun x hx => ⟨VOk.mono (by simp) _ (hl x hx).1,(hl x hx).2⟩) w.drawn
   have e2 : (List.map (ren (ρ.put H.length gsz 0)) l) = (ren ρ v).cells.toList := by rw [← e1,hcl]
   rw [e2] at G
   subst hc
   show aa prog (bp ft) (ReflectliteValue.unpack (.iface T (ren ρ v))) w _
   refine bC.to (hx (ren ρ v) w) ⟨_,_,(ρ.put H.length gsz 0).put (H ++ [af.place gsz]).length w.heap.size 0,hK,?_,?_⟩
   ·have G' := goes_place G
    rw [List.append_assoc] at G'
    exact G'
   ·refine .inr ⟨by simp [VOk,AOk,LOk,bt],?_⟩
    have h1 := (Env.cj ρ H.length gsz 0).1
    have h2 := (Env.cj (ρ.put H.length gsz 0) (H ++ [af.place gsz]).length w.heap.size 0).1
    have h3 := (Env.cf (ρ.put H.length gsz 0) (H ++ [af.place gsz]).length w.heap.size 0 H.length (by simp)).1
    simp only [List.length_append,List.length_singleton] at h2 h3
    simp [ren,cV,dA,aO,h2,h3,h1]
theorem rels_map : ∀ {n : Nat} {args cargs : List Value},(∀ i : Nat,cS n ρ (args.getD i unk) (cargs.getD i undef)) → cargs.length = args.length → (∀ x ∈ args,x ≠ unk) → cargs = args.map (ren ρ)
 | _,[],[],_,_,_ => rfl
 | _,a :: l,c :: m,hr,hl,hu => by
  have e0 : c = ren ρ a := arg_val (hr 0) (hu a (by simp))
  have e1 := rels_map (args := l) (cargs := m) (fun i => hr (i + 1)) (by simpa using hl) fun x hx => hu x (by simp [hx])
  rw [e0,e1,List.map_cons]
theorem good_fix (hJ : Closed prog main J) {g : FuncId} {fn : Func} {e : Array Value → Go.Sem Value} (E : IsExt prog g fn e) {args : List Value} {v : Value} (hu : ∀ x ∈ args,x ≠ unk) (hv : VOk H.length v)
  (hrun : ∀ (ρ : Env) (FC : Frm) (w : World) (ft : aJ),aN ρ H FC w ft → bC prog (e ⟨args.map (ren ρ)⟩) w (ren ρ v) w []) (hK : K v H) : Good prog J g args H K :=
 good_run hJ E fun ρ FC w ft cargs R hr hl => by
  rw [rels_map hr hl hu]
  exact bC.to (hrun ρ FC w ft R) ⟨v,H,ρ,hK,bM.refl R,.inr ⟨hv,rfl⟩⟩
theorem runs_loadVar (R : aN ρ H FC w ft) {t : TypeId} {g : Bool} {s b o : Nat} {KV : Value → Prop} (ht : tk prog t = some (g,s)) (hK : ai g s (ptr b o) H KV) {Q : Value → World → Prop} (hQ : ∀ v,KV v → VOk H.length v → Q (ren ρ v) w) :
  aa prog (bp ft) (loadVar t ⟨ρ.blk b,o,none⟩) w Q := by
 have h := sound_load R ht hK hQ
 exact h
theorem runs_storeVar (R : aN ρ H FC w ft) {t : TypeId} {g : Bool} {s b o : Nat} {v : Value} {KH : List af → Prop} (ht : tk prog t = some (g,s)) (hv : VOk H.length v) (hK : aB s (ptr b o) v H KH)
  {Q : Unit → World → Prop} (hQ : ∀ h' w',KH h' → bM ρ H FC w ft ρ h' w' → Q () w') : aa prog (bp ft) (storeVar t ⟨ρ.blk b,o,none⟩ (ren ρ v)) w Q := by
 have h := sound_store R ht hv hK hQ
 exact h
end
theorem vof_ptr : ∀ (u : Value) (w : World),bC prog (ReflectliteValue.unpack (.iface 78 u)) w (.agg #[.pointer (some ⟨gsz,78,none⟩),.pointer (some ⟨w.heap.size,0,none⟩),.int .u64 150]) (w.alloc (.cells u.cells 78)) [] := fun u w acc => by kernel_rfl
theorem vof_err : ∀ (u : Value) (w : World),bC prog (ReflectliteValue.unpack (.iface 73 u)) w (.agg #[.pointer (some ⟨gsz,73,none⟩),.pointer (some ⟨w.heap.size,0,none⟩),.int .u64 153]) (w.alloc (.cells u.cells 73)) [] := fun u w acc => by kernel_rfl
noncomputable abbrev hc (T : Nat) : Value := .pointer (some ⟨gsz,T,none⟩)
noncomputable abbrev rvc (T : Nat) (a : Addr) (fl : Int) : Value := .agg #[hc T,.pointer (some a),.int .u64 fl]
theorem vty_run (a : Addr) (w : World) : bC prog (ReflectliteValue.methodAny (ReflectliteValue.valueError "reflectlite.Value.Type" 0) (fun t _ _ _ => ReflectliteType.toType t) #[rvc 78 a 150]) w (.iface 176 (.agg #[hc 78])) w [] := fun acc => by kernel_rfl
theorem knd_run_p (w : World) : bC prog (ReflectliteType.abiMethod (fun t => do pure (.int .u8 (← Rtype.kind t))) #[hc 78]) w (.int .u8 22) w [] := fun acc => by kernel_rfl
theorem knd_run_e (w : World) : bC prog (ReflectliteType.abiMethod (fun t => do pure (.int .u8 (← Rtype.kind t))) #[hc 73]) w (.int .u8 25) w [] := fun acc => by kernel_rfl
theorem elm_run (w : World) : bC prog (ReflectliteType.method ReflectliteType.elem #[.agg #[hc 78]]) w (.iface 176 (.agg #[hc 73])) w [] := fun acc => by kernel_rfl
theorem imp_run (w : World) : bC prog (ReflectliteType.relation "Implements" ReflectliteType.implements_ #[.agg #[hc 73], .iface 176 (.agg #[hc 75])]) w (.bool true) w [] := fun acc => by kernel_rfl
theorem asg_run (w : World) : bC prog (ReflectliteType.relation "AssignableTo" ReflectliteType.assignableTo #[.agg #[hc 73], .iface 176 (.agg #[hc 73])]) w (.bool true) w [] := fun acc => by kernel_rfl
theorem tof_run (u : Value) (w : World) : bC prog (ReflectliteType.typeOf #[.iface 73 u]) w (.iface 176 (.agg #[hc 73])) w [] := fun acc => by kernel_rfl
theorem parts_p (a : Addr) (w : World) : bC prog (ReflectliteValue.parts (rvc 78 a 150)) w (some (78,a,150)) w [] := fun acc => by kernel_rfl
theorem parts_d (a : Addr) (w : World) : bC prog (ReflectliteValue.parts (rvc 73 a 409)) w (some (73,a,409)) w [] := fun acc => by kernel_rfl
theorem parts_s (a : Addr) (w : World) : bC prog (ReflectliteValue.parts (rvc 73 a 153)) w (some (73,a,153)) w [] := fun acc => by kernel_rfl
theorem elem_of (w : World) : bC prog (Rtype.elem? 78) w (some 73) w [] := fun acc => by kernel_rfl
theorem mk_of (a : Addr) (w : World) : bC prog (ReflectliteValue.mk 73 a ReflectliteValue.flagAddr) w (rvc 73 a 409) w [] := fun acc => by kernel_rfl
theorem direct_of (w : World) : bC prog (Rtype.directlyAssignable 73 73) w true w [] := fun acc => by kernel_rfl
section
variable {main : Bool} {J : JT} {H : List af} {K : Value → List af → Prop} {ρ : Env} {FC : Frm} {w : World} {ft : aJ}
theorem rv_ren (R : aN ρ H FC w ft) {p T q : Nat} {fl : Int} (hp : bJ H p) : ren ρ (rvV p T q fl) = rvc T ⟨ρ.blk q,0,none⟩ fl := by
 simp [ren,cV,dA,aO,place_blk R hp]
theorem rt_ren (R : aN ρ H FC w ft) {p T : Nat} (hp : bJ H p) : ren ρ (rtV p T) = .iface 176 (.agg #[hc T]) := by
 simp [ren,cV,dA,aO,place_blk R hp]
theorem ra_ren (R : aN ρ H FC w ft) {p T : Nat} (hp : bJ H p) : ren ρ (.agg ⟨[hdl p T]⟩) = .agg #[hc T] := by
 simp [ren,cV,dA,aO,place_blk R hp]
theorem hd_ren (R : aN ρ H FC w ft) {p T : Nat} (hp : bJ H p) : ren ρ (hdl p T) = hc T := by
 simp [ren,aO,place_blk R hp]
theorem place_lt {p : Nat} (hp : bJ H p) : p < H.length := (List.getElem?_eq_some_iff.1 hp).1
theorem good63 (hJ : Closed prog main J) {p q : Nat} (hp : bJ H p) (hK : K (rtV p 78) H) : Good prog J 63 [rvV p 78 q 150] H K :=
 good_fix hJ (e := ReflectliteValue.methodAny (ReflectliteValue.valueError "reflectlite.Value.Type" 0) (fun t _ _ _ => ReflectliteType.toType t)) (fn := f63) ⟨by kernel_rfl, by kernel_rfl, by kernel_rfl, by kernel_rfl, by kernel_rfl⟩
  (by simp [unk]) (by have := place_lt hp; simp [VOk,AOk,LOk,bt,this]) (fun ρ FC w ft R => by
   simp only [List.map]
   rw [rv_ren R hp,rt_ren R hp]
   exact vty_run _ w) hK
theorem good146p (hJ : Closed prog main J) {p : Nat} (hp : bJ H p) (hK : K (.int .u8 22) H) : Good prog J 146 [hdl p 78] H K :=
 good_fix hJ (e := ReflectliteType.abiMethod (fun t => do pure (.int .u8 (← Rtype.kind t)))) (fn := f146) ⟨by kernel_rfl,by kernel_rfl,by kernel_rfl,by kernel_rfl,by kernel_rfl⟩
  (by simp [unk]) (by simp [VOk]) (fun ρ FC w ft R => by
   simp only [List.map]
   rw [hd_ren R hp]
   exact knd_run_p w) hK
theorem good146e (hJ : Closed prog main J) {p : Nat} (hp : bJ H p) (hK : K (.int .u8 25) H) : Good prog J 146 [hdl p 73] H K :=
 good_fix hJ (e := ReflectliteType.abiMethod (fun t => do pure (.int .u8 (← Rtype.kind t)))) (fn := f146) ⟨by kernel_rfl,by kernel_rfl,by kernel_rfl,by kernel_rfl,by kernel_rfl⟩
  (by simp [unk]) (by simp [VOk]) (fun ρ FC w ft R => by
   simp only [List.map]
   rw [hd_ren R hp]
   exact knd_run_e w) hK
theorem good157 (hJ : Closed prog main J) {p : Nat} (hp : bJ H p) (hK : K (rtV p 73) H) : Good prog J 157 [.agg ⟨[hdl p 78]⟩] H K :=
 good_fix hJ (e := ReflectliteType.method ReflectliteType.elem) (fn := f157) ⟨by kernel_rfl,by kernel_rfl,by kernel_rfl,by kernel_rfl,by kernel_rfl⟩
  (by simp [unk]) (by have := place_lt hp; simp [VOk,AOk,LOk,bt,this]) (fun ρ FC w ft R => by
   simp only [List.map]
   rw [ra_ren R hp,rt_ren R hp]
   exact elm_run w) hK
theorem good158 (hJ : Closed prog main J) {p p2 : Nat} (hp : bJ H p) (hp2 : bJ H p2) (hK : K (.bool true) H) : Good prog J 158 [.agg ⟨[hdl p 73]⟩,rtV p2 75] H K :=
 good_fix hJ (e := ReflectliteType.relation "Implements" ReflectliteType.implements_) (fn := f158) ⟨by kernel_rfl, by kernel_rfl, by kernel_rfl, by kernel_rfl, by kernel_rfl⟩
  (by simp [unk]) (by simp [VOk]) (fun ρ FC w ft R => by
   simp only [List.map]
   rw [ra_ren R hp,rt_ren R hp2]
   exact imp_run w) hK
theorem good155 (hJ : Closed prog main J) {p p2 : Nat} (hp : bJ H p) (hp2 : bJ H p2) (hK : K (.bool true) H) : Good prog J 155 [.agg ⟨[hdl p 73]⟩,rtV p2 73] H K :=
 good_fix hJ (e := ReflectliteType.relation "AssignableTo" ReflectliteType.assignableTo) (fn := f155) ⟨by kernel_rfl, by kernel_rfl, by kernel_rfl, by kernel_rfl, by kernel_rfl⟩
  (by simp [unk]) (by simp [VOk]) (fun ρ FC w ft R => by
   simp only [List.map]
   rw [ra_ren R hp,rt_ren R hp2]
   exact asg_run w) hK
theorem good98 (hJ : Closed prog main J) {v : Value} (hK : K (rtV H.length 73) (H ++ [.place gsz])) : Good prog J 98 [.iface 73 v] H K :=
 good_run hJ (e := ReflectliteType.typeOf) (fn := f98) ⟨by kernel_rfl,by kernel_rfl,by kernel_rfl,by kernel_rfl,by kernel_rfl⟩ fun ρ FC w ft cargs R hr hl => by
  rw [rels_map hr hl (by simp [unk])]
  have R1 := R.place gsz
  have hp : bJ (H ++ [.place gsz]) H.length := by simp [bJ]
  refine bC.to (tof_run (ren ρ v) w) ⟨_,_,ρ.put H.length gsz 0,hK,goes_place (bM.refl R1),.inr ⟨by simp [VOk,AOk,LOk,bt],?_⟩⟩
  rw [rt_ren R1 hp]
theorem tk_pwr : tk prog 78 = some (false,1) := by kernel_rfl
theorem tk_wrg : tk prog 73 = some (true,1) := by kernel_rfl
theorem good64 (hJ : Closed prog main J) {p q b : Nat} (hp : bJ H p) (hq : H[q]? = some (.cells [ptr b 0] true 0)) (hK : K (.bool false) H) : Good prog J 64 [rvV p 78 q 150] H K :=
 good_run hJ (e := ReflectliteValue.method (ReflectliteValue.valueError "reflectlite.Value.IsNil" 0) ReflectliteValue.isNil) (fn := f64) ⟨by kernel_rfl, by kernel_rfl, by kernel_rfl, by kernel_rfl, by kernel_rfl⟩ fun ρ FC w ft cargs R hr hl => by
  rw [rels_map hr hl (by simp [unk])]
  simp only [List.map]
  rw [rv_ren R hp]
  have e1 : ∀ a : Addr, ReflectliteValue.method (ReflectliteValue.valueError "reflectlite.Value.IsNil" 0) ReflectliteValue.isNil ⟨[rvc 78 a 150]⟩ = (do match ← ReflectliteValue.parts (rvc 78 a 150) with | none => ReflectliteValue.valueError "reflectlite.Value.IsNil" 0 | some (t, a, fl) => ReflectliteValue.isNil t a fl (fl % 32)) := fun a => rfl
  rw [e1]
  refine aa.bind (bC.to (parts_p _ w) ?_)
  show aa prog (bp ft) (do match ← loadVar 78 ⟨ρ.blk q,0,none⟩ with
   | Value.chan none | Value.nilFunc | Value.nilIface | Value.map none | Value.pointer none | Value.slice none _ _ => pure (Value.bool true)
   | _ => pure (Value.bool false)) w _
  refine aa.bind (runs_loadVar R tk_pwr (KV := fun v => v = ptr b 0) (by rw [load_cell hq rfl rfl]) fun v hv _ => ?_)
  subst hv
  exact aa.pure ⟨_,_,ρ,hK,bM.refl R,.inr ⟨by simp [VOk],by simp [ren]⟩⟩
theorem good99 (hJ : Closed prog main J) {p q b : Nat} (hp : bJ H p) (hq : H[q]? = some (.cells [ptr b 0] true 0)) (hb : b < H.length) (hK : K (rvV p 73 b 409) H) : Good prog J 99 [rvV p 78 q 150] H K :=
 good_run hJ (e := ReflectliteValue.method (ReflectliteValue.valueError "reflectlite.Value.Elem" 0) ReflectliteValue.elem) (fn := f99) ⟨by kernel_rfl, by kernel_rfl, by kernel_rfl, by kernel_rfl, by kernel_rfl⟩ fun ρ FC w ft cargs R hr hl => by
  rw [rels_map hr hl (by simp [unk])]
  simp only [List.map]
  rw [rv_ren R hp]
  have e1 : ∀ a : Addr, ReflectliteValue.method (ReflectliteValue.valueError "reflectlite.Value.Elem" 0) ReflectliteValue.elem ⟨[rvc 78 a 150]⟩ = (do match ← ReflectliteValue.parts (rvc 78 a 150) with | none => ReflectliteValue.valueError "reflectlite.Value.Elem" 0 | some (t, a, fl) => ReflectliteValue.elem t a fl (fl % 32)) := fun a => rfl
  rw [e1]
  refine aa.bind (bC.to (parts_p _ w) ?_)
  show aa prog (bp ft) (do
   let v ← loadVar 78 ⟨ρ.blk q,0,none⟩
   let e ← Rtype.elem? 78
   match 22,v,e with
   | 20,i,_ => ReflectliteValue.unpack i
   | 22,.pointer none,_ => pure ReflectliteValue.zeroV
   | 22,.pointer (some p),some e => ReflectliteValue.mk e p ReflectliteValue.flagAddr
   | _, _, _ => ReflectliteValue.valueError "reflectlite.Value.Elem" 22) w _
  refine aa.bind (runs_loadVar R tk_pwr (KV := fun v => v = ptr b 0) (by rw [load_cell hq rfl rfl]) fun v hv _ => ?_)
  subst hv
  refine aa.bind (bC.to (elem_of w) ?_)
  exact bC.to (mk_of ⟨ρ.blk b,0,none⟩ w) ⟨_,_,ρ,hK,bM.refl R,.inr ⟨by have := place_lt hp; simp [VOk,AOk,LOk,bt,this,hb],(rv_ren R hp).symm⟩⟩
theorem good100 (hJ : Closed prog main J) {p p2 b q : Nat} {n m : Int} (hp : bJ H p) (hp2 : bJ H p2) (hq : H[q]? = some (.cells [ab n] true 0)) (hb : H[b]? = some (.cells [ab m] true 0)) (hK : K (.tuple ⟨[]⟩) (H.set b (.cells [ab n] true 0))) :
  Good prog J 100 [rvV p 73 b 409,rvV p2 73 q 153] H K :=
 good_run hJ (e := ReflectliteValue.set) (fn := f100) ⟨by kernel_rfl,by kernel_rfl,by kernel_rfl,by kernel_rfl,by kernel_rfl⟩ fun ρ FC w ft cargs R hr hl => by
  rw [rels_map hr hl (by simp [unk])]
  simp only [List.map]
  rw [rv_ren R hp,rv_ren R hp2]
  have rls : ∀ v x : Value,ReflectliteValue.set ⟨[v,x]⟩ = (do
   let (some (dst,a,fl),some (src,b,_)) := (← ReflectliteValue.parts v,← ReflectliteValue.parts x)
    | unsupported (.noEntry "extern/(internal/reflectlite.Value).Set.zeroValue")
   if fl / ReflectliteValue.flagAddr % 2 == 0 then unsupported (.noEntry "extern/(internal/reflectlite.Value).Set.unaddressable")
   let val ← loadVar src b
   if ← Rtype.directlyAssignable dst src then storeVar dst a val
   else if ← Rtype.implements dst src then
    if (← Rtype.kind src) == 20 then
     match val with
     | .nilIface => unsupported (.noEntry "extern/reflectlite: a nil value of one interface type handed on as a value of another")
     | _ => storeVar dst a val
    else storeVar dst a (.iface src val)
   else panicString ("reflectlite.Set: value of type " ++ (← Rtype.spelt src) ++ " is not assignable to type " ++ (← Rtype.spelt dst))
   pure (.tuple #[])) := fun v x => rfl
  rw [rls]
  refine aa.bind (bC.to (parts_d _ w) ?_)
  refine aa.bind (bC.to (parts_s _ w) ?_)
  simp only
  rw [if_neg (by decide)]
  refine aa.bind (runs_loadVar R tk_wrg (KV := fun v => v = .agg ⟨[ab n]⟩) ?_ fun v hv _ => ?_)
  ·simp only [ai,hq]
   exact ⟨by simp,rfl,rfl⟩
  subst hv
  refine aa.bind (bC.to (direct_of w) ?_)
  rw [if_pos rfl]
  refine aa.bind (runs_storeVar R tk_wrg (v := .agg ⟨[ab n]⟩) (KH := fun h => h = H.set b (.cells [ab n] true 0)) (by simp [VOk,AOk,LOk]) ?_ fun h' w' hh g => ?_)
  ·simp only [aB,hb]
   exact ⟨rfl,rfl,by simp,rfl⟩
  subst hh
  exact aa.pure ⟨_,_,ρ,hK,g,.inr ⟨by simp [VOk,AOk,LOk],by simp [ren,cV,dA]⟩⟩
end
end Go.Proofs.YtlhanfcgdfjhjaaGreatDoor
namespace Go.Proofs.YtlhanfcgdfjhjaaGreatDoor
open Go.Conc Go.Proofs.Tryz
set_option maxRecDepth 100000
set_option maxHeartbeats 4000000
set_option linter.unusedVariables false
section
variable {main : Bool} {J : JT} {n0 : Nat} {h : List af} {K : Value → List af → Prop}
theorem at34 : prog.funcs[34]? = some f34 := by kernel_rfl
theorem body34 : f34.body = some (codeOf f34) := by kernel_rfl
def pl34 : bj := []
def ct34 : bB := .bin (.go) (.bin (.go) (.bin (.go) (.bin (.go) (.bin (.go) (.bin (.bin (.go) (.cut (.go))) (.bin (.go) (.bin (.bin (.go) (.cut (.go))) (.go))))))))
theorem pok34 : aC prog pl34 (codeOf f34) = true := by kernel_rfl
abbrev w34 (J : JT) (n0 : Nat) (p : List Nat) (f : RG) (h : List af) (l : List (RG → List af → Prop)) (K : Value → List af → Prop) : Prop := W prog J 42 n0 34 (aw p (codeOf f34)) f h (aA pl34 prog J 42 n0 34 ct34 p (codeOf f34) l (aq prog [.tmp 4] n0 K))
theorem e34 {a0 a1 : Value} : W prog J 42 h.length 34 (codeOf f34) (RG.mk (ax [a0,a1]) []) h (aq prog [.tmp 4] h.length K) =
(aIfN prog .eql 75 a0 fun v1 =>
cnd v1
(aI h.length K [] [(Value.bool false)] h)
(aIfN prog .eql 20 a1 fun v2 =>
cnd v2
(aMkI prog 9 (Value.string { data := #[101,114,114,111,114,115,58,32,116,97,114,103,101,116,32,99,97,110,110,111,116,32,98,101,32,110,105,108] }) fun v3 =>
False)
(Good prog J 62 [a1] h fun v4 h5 =>
bo [(Value.pointer none),(Value.pointer none),(Value.int .u64 0)] h5 fun v6 h7 =>
aB 3 v6 v4 h7 fun h8 =>
ai true 3 v6 h8 fun v9 =>
Good prog J 63 [v9] h8 fun v10 h11 =>
callI prog (Good prog J) v10 "Kind" [] h11 fun v12 h13 =>
aj prog .neq 138 v12 (Value.int .u8 22) fun v14 =>
cnd v14
(bh (w34 J h.length [1,1,1,1,1,0,1] ((((((((((((((((((((RG.mk (ax [a0,a1]) []).p 4 (Value.bool false)).p 8 a0).p 9 v1).p 10 a1).p 11 v2).p 13 a1).p 14 v4).p 5 v6).p 15 v9).p 16 v10).p 6 v10).p 17 v10).p 18 v12).p 19 v14).p 20 v14).p 20 (Value.bool true)).p 21 undef).p 22 undef).p 23 (Value.bool true)) h13 [] K))
(ai true 3 v6 h13 fun v15 =>
Good prog J 64 [v15] h13 fun v16 h17 =>
bh (w34 J h.length [1,1,1,1,1,0,1] ((((((((((((((((((((RG.mk (ax [a0,a1]) []).p 4 (Value.bool false)).p 8 a0).p 9 v1).p 10 a1).p 11 v2).p 13 a1).p 14 v4).p 5 v6).p 15 v9).p 16 v10).p 6 v10).p 17 v10).p 18 v12).p 19 v14).p 20 v14).p 20 (Value.bool false)).p 21 v15).p 22 v16).p 23 v16) h17 [] K))))) := aT pok34 ct34 (by kernel_rfl)
theorem g34 (hJ : Closed prog main J) {a0 a1 : Value} (hs : aD h → W prog J 42 h.length 34 (codeOf f34) (RG.mk (ax [a0,a1]) []) h (aq prog [.tmp 4] h.length K)) : Good prog J 34 [a0,a1] h K :=
 az hJ mixed at34 body34 (by kernel_rfl) (Nat.le_of_ble_eq_true rfl) hs
theorem s34_1 {f : RG} : w34 J n0 [1,1,1,1,1,0,1] f h [] K =
(cnd (f.r 23)
(aMkI prog 9 (Value.string { data := #[101,114,114,111,114,115,58,32,116,97,114,103,101,116,32,109,117,115,116,32,98,101,32,97,32,110,111,110,45,110,105,108,32,112,111,105,110,116,101,114] }) fun v1 =>
False)
(callI prog (Good prog J) (f.r 6) "Elem" [] h fun v2 h3 =>
callI prog (Good prog J) v2 "Kind" [] h3 fun v4 h5 =>
aj prog .neq 138 v4 (Value.int .u8 20) fun v6 =>
cnd v6
(ai false 1 (gv h5 0) h5 fun v7 =>
callI prog (Good prog J) v2 "Implements" [v7] h5 fun v8 h9 =>
aUn .not v8 fun v10 =>
bh (w34 J n0 yp26 (((((((((((((f.p 25 (f.r 6)).p 26 v2).p 7 v2).p 27 v2).p 28 v4).p 29 v6).p 30 v6).p 30 (Value.bool true)).p 31 v2).p 32 v7).p 33 v8).p 34 v10).p 35 v10) h9 [] K))
(bh (w34 J n0 yp26 (((((((((((((f.p 25 (f.r 6)).p 26 v2).p 7 v2).p 27 v2).p 28 v4).p 29 v6).p 30 v6).p 30 (Value.bool false)).p 31 undef).p 32 undef).p 33 undef).p 34 undef).p 35 (Value.bool false)) h5 [] K)))) := sub_eq pok34 ct34 (by kernel_rfl)
theorem s34_2 {f : RG} : w34 J n0 yp26 f h [] K =
(cnd (f.r 35)
(aMkI prog 9 (Value.string { data := #[101,114,114,111,114,115,58,32,42,116,97,114,103,101,116,32,109,117,115,116,32,98,101,32,105,110,116,101,114,102,97,99,101,32,111,114,32,105,109,112,108,101,109,101,110,116,32,101,114,114,111,114] }) fun v1 =>
False)
(ai true 3 (f.r 5) h fun v2 =>
Good prog J 65 [(f.r 0),(f.r 1),v2,(f.r 7)] h fun v3 h4 =>
aI n0 K f.ds [v3] h4)) := sub_eq pok34 ct34 (by kernel_rfl)
theorem at65 : prog.funcs[65]? = some f65 := by kernel_rfl
theorem body65 : f65.body = some (codeOf f65) := by kernel_rfl
def pl65 : bj := []
def ct65 : bB := .go
theorem pok65 : aC prog pl65 (codeOf f65) = true := by kernel_rfl
theorem e65 {a0 a1 a2 a3 : Value} : W prog J 62 h.length 65 (codeOf f65) (RG.mk (ax [a0,a1,a2,a3]) []) h (aq prog [.tmp 8] h.length K) =
(cq a2 h fun v1 h2 =>
Sem J 62 h.length 65 (aw [1,0] (codeOf f65)) (((RG.mk (ax [a0,a1,a2,a3]) []).p 6 v1).p 8 (Value.bool false)) h2 (aA pl65 prog J 62 h.length 65 ct65 [1,0] (codeOf f65) [] (aq prog [.tmp 8] h.length K))) := aT pok65 ct65 (by kernel_rfl)
theorem g65 (hJ : Closed prog main J) {a0 a1 a2 a3 : Value} (hs : aD h → W prog J 62 h.length 65 (codeOf f65) (RG.mk (ax [a0,a1,a2,a3]) []) h (aq prog [.tmp 8] h.length K)) : Good prog J 65 [a0,a1,a2,a3] h K :=
 az hJ mixed at65 body65 (by kernel_rfl) (Nat.le_of_ble_eq_true rfl) hs
theorem s65_1 {f : RG} {nx0 : RG → List af → Prop} : W prog J 62 n0 65 (aw [1,0,0] (codeOf f65)) f h (bc nx0 (aA pl65 prog J 62 n0 65 ct65 [1,0] (codeOf f65) [] (aq prog [.tmp 8] n0 K))) =
(Good prog J 98 [(f.r 0)] h fun v1 h2 =>
callI prog (Good prog J) v1 "AssignableTo" [(f.r 3)] h2 fun v3 h4 =>
cnd v3
(ai true 3 (f.r 6) h4 fun v5 =>
Good prog J 99 [v5] h4 fun v6 h7 =>
Good prog J 62 [(f.r 0)] h7 fun v8 h9 =>
Good prog J 100 [v6,v8] h9 fun v10 h11 =>
aI n0 K f.ds [(Value.bool true)] h11)
(False)) := sub_eq pok65 ct65 (by kernel_rfl)
theorem l65_1 (hJ : Closed prog main J) {S : Type} (μ : S → Nat) (I : S → RG → List af → Prop) (hI : ∀ s f h,I s f h → aD h → n0 ≤ h.length → W prog J 62 n0 65 (aw [1,0,0] (codeOf f65)) f h (bc (Nx n0 μ I s) (aA pl65 prog J 62 n0 65 ct65 [1,0] (codeOf f65) [] (aq prog [.tmp 8] n0 K))))
 {s : S} {f : RG} (hi : dJ n0 I s f h) : Sem J 62 n0 65 (aw [1,0] (codeOf f65)) f h (aA pl65 prog J 62 n0 65 ct65 [1,0] (codeOf f65) [] (aq prog [.tmp 8] n0 K)) :=
 bn hJ mixed (b := aw [1,0,0] (codeOf f65)) (by kernel_rfl) μ I hI hi
end
end Go.Proofs.YtlhanfcgdfjhjaaGreatDoor
namespace Go.Proofs.YtlhanfcgdfjhjaaGreatDoor
open Go.Conc Go.Proofs.Tryz
set_option maxRecDepth 100000
section
variable {main : Bool} {J : JT} {H : List af} {K : Value → List af → Prop} {KV : Value → Prop}
theorem meth_knd (h : Value) (w : World) : bC prog (Go.method (prog.types.size + Made.depth) 176 (.agg #[h]) "Kind") w (146, h) w [] := fun acc => by kernel_rfl
theorem meth_elm (h : Value) (w : World) : bC prog (Go.method (prog.types.size + Made.depth) 176 (.agg #[h]) "Elem") w (157, .agg #[h]) w [] := fun acc => by kernel_rfl
theorem meth_imp (h : Value) (w : World) : bC prog (Go.method (prog.types.size + Made.depth) 176 (.agg #[h]) "Implements") w (158, .agg #[h]) w [] := fun acc => by kernel_rfl
theorem meth_asg (h : Value) (w : World) : bC prog (Go.method (prog.types.size + Made.depth) 176 (.agg #[h]) "AssignableTo") w (155, .agg #[h]) w [] := fun acc => by kernel_rfl
theorem ren_one (ρ : Env) (v : Value) : ren ρ (.agg ⟨[v]⟩) = .agg #[ren ρ v] := by simp [ren,cV,dA]
theorem callKnd {p T : Nat} (hp : p < H.length) (hk : Good prog J 146 [hdl p T] H K) : callI prog (Good prog J) (rtV p T) "Kind" [] H K :=
 ⟨146,hdl p T,⟨fun ρ w => by rw [ren_one]; exact bC.to (meth_knd _ w) ⟨rfl,rfl⟩,of_decide_eq_true (by kernel_rfl),by simp [VOk,bt,hp]⟩,hk⟩
theorem callElm {p T : Nat} (hp : p < H.length) (hk : Good prog J 157 [.agg ⟨[hdl p T]⟩] H K) : callI prog (Good prog J) (rtV p T) "Elem" [] H K :=
 ⟨157,.agg ⟨[hdl p T]⟩,⟨fun ρ w => by rw [ren_one]; exact bC.to (meth_elm _ w) ⟨rfl,rfl⟩,of_decide_eq_true (by kernel_rfl),by simp [VOk,AOk,LOk,bt,hp]⟩,hk⟩
theorem callImp {p T : Nat} {u : Value} (hp : p < H.length) (hk : Good prog J 158 [.agg ⟨[hdl p T]⟩, u] H K) : callI prog (Good prog J) (rtV p T) "Implements" [u] H K :=
 ⟨158,.agg ⟨[hdl p T]⟩,⟨fun ρ w => by rw [ren_one]; exact bC.to (meth_imp _ w) ⟨rfl,rfl⟩,of_decide_eq_true (by kernel_rfl),by simp [VOk,AOk,LOk,bt,hp]⟩,hk⟩
theorem callAsg {p T : Nat} {u : Value} (hp : p < H.length) (hk : Good prog J 155 [.agg ⟨[hdl p T]⟩, u] H K) : callI prog (Good prog J) (rtV p T) "AssignableTo" [u] H K :=
 ⟨155,.agg ⟨[hdl p T]⟩,⟨fun ρ w => by rw [ren_one]; exact bC.to (meth_asg _ w) ⟨rfl,rfl⟩,of_decide_eq_true (by kernel_rfl),by simp [VOk,AOk,LOk,bt,hp]⟩,hk⟩
theorem neqKF {t : TypeId} {k : IntKind} {a b : Int} {KV : Value → Prop} (h : (a != b) = false) (hk : KV (.bool false)) : aj prog .neq t (.int k a) (.int k b) KV := ⟨rfl,by show KV (.bool (a != b)); rw [h]; exact hk⟩
theorem neqKT {t : TypeId} {k : IntKind} {a b : Int} {KV : Value → Prop} (h : (a != b) = true) (hk : KV (.bool true)) : aj prog .neq t (.int k a) (.int k b) KV := ⟨rfl,by show KV (.bool (a != b)); rw [h]; exact hk⟩
theorem ag.setApp {b : Nat} {o : af} {H2 : List af} (S : ag [b] H H2) (h2 : H2[b]? = some o) : ∃ g,H2 = H.set b o ++ g := by
 refine ⟨H2.drop H.length,?_⟩
 apply List.ext_getElem?
 intro i
 rw [List.getElem?_append,List.length_set]
 split
 ·rename_i hi
  rw [List.getElem?_set]
  split
  ·rename_i e
   subst e
   simp [hi,h2]
  ·rename_i hne
   exact S.2 i hi (by simp; exact fun e => hne e.symm)
 ·rename_i hi
  rw [List.getElem?_drop]
  congr 1
  omega
theorem retS {n0 b : Nat} {o : af} {H2 : List af} {v : Value} (ok : aD H) (hn : n0 ≤ H.length) (S : ag [b] H H2) (h2 : H2[b]? = some o) (ho : dK H.length o) (hu : v ≠ unk) (hv : VOk H.length v) (hk : K v (H.set b o)) : aI n0 K [] [v] H2 := by
 obtain ⟨g,rfl⟩ := S.setApp h2
 refine retL_drop (fun i x hx => ?_) (by simpa using hn) (by simp [hu]) (by simpa [pack] using hv) (by simpa [pack] using hk)
 rw [List.length_set]
 rcases bI hx with ⟨_,rfl,_⟩ | ⟨_,hx⟩
 ·exact ho
 ·exact ok i x hx
theorem good65 (hJ : Closed prog main J) {p0 p q b : Nat} {n m : Int} {a1 : Value} (hp0 : bJ H p0) (hp : bJ H p) (hq : H[q]? = some (.cells [ptr b 0] true 0)) (hb : H[b]? = some (.cells [ab m] true 0))
  (hK : K (.bool true) (H.set b (.cells [ab n] true 0))) : Good prog J 65 [.iface 73 (.agg ⟨[ab n]⟩),a1,rvV p0 78 q 150,rtV p 73] H K := by
 refine g65 hJ fun ok => ?_
 rw [e65]
 have hbl := ah hb
 refine dk (l := [hdl p0 78,ptr q 0,.int .u64 150]) rfl fun H1 p1 e1 S1 c1 l1 => ?_
 refine l65_1 hJ (S := Unit) (fun _ => 0) (fun _ F H' => F.ds = [] ∧ F.r 0 = .iface 73 (.agg ⟨[ab n]⟩) ∧ F.r 3 = rtV p 73 ∧ F.r 6 = ptr p1 0 ∧ ag [] H H' ∧ H'[p1]? = some (.cells [hdl p0 78,ptr q 0,.int .u64 150] true 0)) ?_ (s := ()) (.inl ⟨rfl,rfl,rfl,rfl,S1,c1⟩)
 rintro s F H2 ⟨ds,r0,r3,r6,S2,c2⟩ ok2 hn2
 rw [s65_1]
 simp only [ds,r0,r3,r6]
 refine good98 hJ ?_
 have S3 : ag [] H (H2 ++ [.place gsz]) := S2.app
 have pl3 : bJ (H2 ++ [.place gsz]) H2.length := by simp [bJ]
 refine callAsg (ah pl3) (good155 hJ pl3 (S3.get hp (by simp)) ?_)
 simp only [cnd,cond_true]
 have c3 : (H2 ++ [af.place gsz])[p1]? = some (.cells [hdl p0 78,ptr q 0,.int .u64 150] true 0) := by rw [List.getElem?_append_left (ah c2)]; exact c2
 generalize H2 ++ [af.place gsz] = H3 at *
 refine ar (c := [hdl p0 78,ptr q 0,.int .u64 150]) c3 (by simp) rfl rfl ?_
 refine good99 hJ (S3.get hp0 (by simp)) (S3.get hq (by simp)) (Nat.lt_of_lt_of_le hbl S3.1) ?_
 refine good62 hJ (l := [ab n]) (by simp [VOk,AOk,LOk]) (by simp [VOk,one]) (fun ρ => by simp [ren,cV,dA,Value.cells]) vof_err ?_
 have S4 : ag [] H (H3 ++ [.place gsz,.cells [ab n] true 0]) := S3.app
 have pl4 : bJ (H3 ++ [.place gsz,.cells [ab n] true 0]) H3.length := by simp [bJ]
 have c4 : (H3 ++ [af.place gsz,.cells [ab n] true 0])[H3.length + 1]? = some (.cells [ab n] true 0) := by simp
 generalize H3 ++ [af.place gsz,.cells [ab n] true 0] = H4 at *
 have b4 := S4.get hb (by simp)
 refine good100 hJ (S4.get hp0 (by simp)) pl4 c4 b4 ?_
 exact retS ok (Nat.le_refl _) ((S4.bN).set (.inl (by simp))) (List.getElem?_set_self (ah b4)) (by simp [dK,LOk,VOk]) (by simp [unk]) (by simp [VOk]) hK
def ErrAt (H : List af) : Prop := ∃ p,bJ H p ∧ H[0]? = some (.typed false 0 [rtV p 75] false)
theorem ErrAt.keep {H H' : List af} (S : ag [] H H') (h : ErrAt H) : ErrAt H' := by
 obtain ⟨p,h1,h2⟩ := h
 exact ⟨p,S.get h1 (by simp),S.get h2 (by simp)⟩
theorem good34n (hJ : Closed prog main J) {a1 : Value} (hK : K (.bool false) H) : Good prog J 34 [.nilIface,a1] H K := by
 refine g34 hJ fun ok => ?_
 rw [e34]
 exact ao (by simp [unk]) (by simpa [pack] using hK)
theorem good34 (hJ : Closed prog main J) (hE : ErrAt H) {b : Nat} {n m : Int} (hb : H[b]? = some (.cells [ab m] true 0)) (hK : K (.bool true) (H.set b (.cells [ab n] true 0))) :
  Good prog J 34 [.iface 73 (.agg ⟨[ab n]⟩),.iface 78 (ptr b 0)] H K := by
 refine g34 hJ fun ok => ?_
 rw [e34]
 have hbl := ah hb
 show (Good prog J 62 _ H _)
 refine good62 hJ (l := [ptr b 0]) (by simp [VOk,bt,hbl]) (by simp [VOk,bt,one,hbl]) (fun ρ => by simp [ren,Value.cells]) vof_ptr ?_
 have S1 : ag [] H (H ++ [.place gsz,.cells [ptr b 0] true 0]) := ag.refl.app
 have pl1 : bJ (H ++ [.place gsz,.cells [ptr b 0] true 0]) H.length := by simp [bJ]
 have q1 : (H ++ [af.place gsz,.cells [ptr b 0] true 0])[H.length + 1]? = some (.cells [ptr b 0] true 0) := by simp
 generalize H ++ [af.place gsz,.cells [ptr b 0] true 0] = H1 at *
 obtain ⟨pe,hpe,h0⟩ := hE
 have hpe1 := S1.get hpe (by simp)
 have h01 := S1.get h0 (by simp)
 have hb1 := S1.get hb (by simp)
 refine qAl fun H2 p5 e2 S2 c2 l2 => ?_
 refine da (c := [hdl H.length 78,ptr (H.length + 1) 0,.int .u64 150]) c2 rfl rfl rfl fun H3 S3 c3 l3 => ?_
 have S13 : ag [] H1 H3 := S2.bq S3 (by simp; omega)
 refine ar (c := [hdl H.length 78,ptr (H.length + 1) 0,.int .u64 150]) c3 (by simp) rfl rfl ?_
 have pl3 : bJ H3 H.length := S13.get pl1 (by simp)
 refine good63 hJ pl3 (callKnd (ah pl3) (good146p hJ pl3 (neqKF rfl (aP.2 ?_))))
 refine ar (c := [hdl H.length 78,ptr (H.length + 1) 0,.int .u64 150]) c3 (by simp) rfl rfl ?_
 refine good64 hJ pl3 (S13.get q1 (by simp)) (hold.2 ?_)
 rw [s34_1]
 refine aP.2 ?_
 refine callElm (p := H.length) (ah pl3) (good157 hJ pl3 (callKnd (ah pl3) (good146e hJ pl3 (neqKT rfl (bm.2 ?_)))))
 have h03 := S13.get h01 (by simp)
 have hgv : gv H3 0 = ptr 0 0 := by simp [gv,h03]
 rw [hgv]
 refine ldT h03 rfl rfl ?_
 refine callImp (ah pl3) (good158 hJ pl3 (S13.get hpe1 (by simp)) ?_)
 show bh _
 refine hold.2 ?_
 rw [s34_2]
 refine aP.2 ?_
 refine ar (b := p5) (c := [hdl H.length 78,ptr (H.length + 1) 0,.int .u64 150]) c3 (by simp) rfl rfl ?_
 have S03 : ag [] H H3 := S1.bq S13 (by simp)
 have b3 := S13.get hb1 (by simp)
 refine good65 hJ (b := b) (n := n) (m := m) pl3 pl3 (S13.get q1 (by simp)) b3 ?_
 exact retS ok (Nat.le_refl _) ((S03.bN).set (.inl (by simp))) (List.getElem?_set_self (ah b3)) (by simp [dK,LOk,VOk]) (by simp [unk]) (by simp [VOk]) hK
end
theorem list9 {l : List Int} (h : l.length = 9) : ∃ a b c d e f g i j,l = [a,b,c,d,e,f,g,i,j] := by
 match l,h with
 | [a,b,c,d,e,f,g,i,j],_ => exact ⟨a,b,c,d,e,f,g,i,j,rfl⟩
def dT (s : List UInt8) : Value := .tuple ⟨[.agg ⟨(readGP s).1.cells⟩,.agg ⟨(readGP s).2.cells⟩,ab (ca s).1,ab (ca s).2]⟩
theorem readGV_bad {s : List UInt8} {a e : Int} (h : ca s = (a,e)) (he : e ≠ 0) : dT s = .tuple ⟨[.agg ⟨pasN.cells⟩,.agg ⟨skyN.cells⟩,ab a,ab e]⟩ := by
 have : readGP s = (pasN,skyN) := if_neg (by rw [h]; exact he)
 unfold dT
 rw [this,h]
theorem readGV_good {s : List UInt8} {l : List Int} (hl : s.length ≤ 120) (h : readG s = .inr l) (he : cQ (bR (pasX l)) (cd (skyX l)) = 0) : dT s = .tuple ⟨[.agg ⟨(pasX l).cells⟩,.agg ⟨(skyX l).cells⟩,ab 0,ab 0]⟩ := by
 have hE : ca s = (0,0) := by
  unfold ca
  rw [if_neg (by omega),h]
  exact Prod.ext rfl he
 have : readGP s = (pasX l,skyX l) := by
  unfold readGP
  rw [hE,if_pos rfl,h]
 unfold dT
 rw [this,hE]
section
variable {main : Bool} {J : JT} {H : List af} {K : Value → List af → Prop} {KV : Value → Prop} {F : RG} {n0 : Nat} {s : List UInt8}
theorem retG {H' : List af} {b1 b3 : Nat} {p : Pas} {y : aU} {a e : Int} (ds : F.ds = []) (r2 : F.r 2 = ptr b1 0) (r3 : F.r 3 = ptr b3 0) (r4 : F.r 4 = ab a) (r5 : F.r 5 = ab e) (c1 : H'[b1]? = some (.cells p.cells true 0)) (c3 : H'[b3]? = some (.cells y.cells true 0))
  (hk : K (.tuple ⟨[.agg ⟨p.cells⟩,.agg ⟨y.cells⟩,ab a,ab e]⟩) H') : aq prog [.cell 2 23,.cell 3 25,.tmp 4,.tmp 5] n0 K .ret F H' := by
 refine retQs ds (de (gg := true) (s := 6) (by kernel_rfl) ?_)
 rw [r2]
 refine ar (c := p.cells) c1 (by simp [Pas.cells]) rfl rfl (de (gg := true) (s := 3) (by kernel_rfl) ?_)
 rw [r3]
 refine ar (c := y.cells) c3 (by simp [aU.cells]) rfl rfl (resW_tmp (by rw [r4]; simp [unk]) (resW_tmp (by rw [r5]; simp [unk]) (dN ?_)))
 rw [r4,r5]
 exact hk
set_option maxHeartbeats 1000000 in
theorem good12 (hJ : Closed prog main J) (hE : ErrAt H) (hK : ∀ H',ag [] H H' → K (dT s) H') : Good prog J 12 [ay s] H K := by
 refine g12 hJ fun ok => ?_
 rw [e12]
 refine qAl fun H1 b1 e1 S1 c1 l1 => qAl fun H2 b3 e3 S2 c3 l2 => di (gtrI (ba (fun h => ?_) fun h => ?_))
 ·have hre : ca s = (0,10) := if_pos (by omega)
  have hc1 := S2.get c1 (by simp)
  refine bu (bu (da (c := pasN.cells) hc1 rfl rfl rfl fun H3 S3 c3' l3 => da (c := skyN.cells) (S3.get c3 (by simp; omega)) rfl rfl rfl fun H4 S4 c4 l4 => ?_))
  refine retG (p := pasN) (y := skyN) (a := 0) (e := 10) rfl rfl rfl rfl rfl (S4.get c3' (by simp; omega)) c4 ?_
  rw [← readGV_bad hre (by decide)]
  exact hK H4 (((S1.trans S2).bq S3 (by simp; omega)).bq S4 (by simp; omega))
 have hl : s.length ≤ 120 := by omega
 have S02 := S1.trans S2
 have c12 := S2.get c1 (by simp)
 refine qAl fun H3 bg e4 S3 cg l3 => qAl fun H4 bw e5 S4 cw l4 => ?_
 have S34 : ag [] H2 H4 := S3.trans S4
 have cg4 : H4[bg]? = some (.cells (cellsG []) true 0) := S4.get cg (by simp)
 have c14 := S34.get c12 (by simp)
 have c34 := S34.get c3 (by simp)
 have S04 := S02.trans S34
 -- the way back with an error
 have bad : ∀ {F : RG} {H5 : List af} {a e : Int},F.ds = [] → F.r 2 = ptr b1 0 → F.r 3 = ptr b3 0 → F.r 4 = ab a → F.r 5 = ab e → ca s = (a,e) → e ≠ 0 → ag [] H H5 → H5[b1]? = some (.cells pasN.cells true 0) → H5[b3]? = some (.cells skyN.cells true 0) → aq prog [.cell 2 23,.cell 3 25,.tmp 4,.tmp 5] H.length K .ret F H5 := by
  intro F H5 a e ds r2 r3 r4 r5 hr he S x1 x3
  refine retG (p := pasN) (y := skyN) ds r2 r3 r4 r5 x1 x3 ?_
  rw [← readGV_bad hr he]
  exact hK H5 S
 refine good33 hJ (by omega) cg4 (fun i H5 hi S5 => ⟨by simp [unk],?_⟩) fun l H5 hr hl9 S5 c5 => ⟨by simp [unk],?_⟩
 ·have hre : ca s = ((i : Int),2) := by
   unfold ca
   rw [if_neg (by omega),hi]
  have S05 : ag [] H H5 := S04.bq S5 (by simp; omega)
  have cw5 := S5.get cw (by simp; omega)
  have c15 := S5.get c14 (by simp; omega)
  have c35 := S5.get c34 (by simp; omega)
  have lw := ah cw5
  refine good34 hJ (hE.keep S05) (b := bw) (n := (i : Int)) (m := 0) cw5 (bm.2 ⟨[bw],bu (bu (aQ (ldI (v := ab (i : Int)) (List.getElem?_set_self lw) rfl rfl ⟨by simp [aR,au],?_⟩)))⟩)
  have S56 : ag [bw] H5 (H5.set bw (.cells [ab (i : Int)] true 0)) := ag.refl.set (.inl (by simp))
  generalize H5.set bw (.cells [ab (i : Int)] true 0) = H6 at *
  have c16 := S56.get c15 (by simp; omega)
  have c36 := S56.get c35 (by simp; omega)
  have l6 := S56.1
  have l5 := S5.1
  refine da (c := pasN.cells) c16 rfl rfl rfl fun H7 S7 c7 l7 => ⟨sb1Z S7 (by omega) (by simp; omega),da (c := skyN.cells) (S7.get c36 (by simp; omega)) rfl rfl rfl fun H8 S8 c8 l8 => ⟨?_,?_⟩⟩
  ·intro x hx
   have : x = bw := by simpa using hx
   subst this
   rw [S8.2 _ (by omega) (by simp; omega),S7.2 _ (by omega) (by simp; omega)]
  ·exact bad (a := (i : Int)) (e := 2) rfl rfl rfl rfl rfl hre (by decide) (((S05.bq S56 (by simp; omega)).bq S7 (by simp; omega)).bq S8 (by simp; omega)) (S8.get c7 (by simp; omega)) c8
 ·have S05 : ag [] H H5 := S04.bq S5 (by simp; omega)
  have c15 := S5.get c14 (by simp; omega)
  have c35 := S5.get c34 (by simp; omega)
  have hre : ca s = (0,cQ (bR (pasX l)) (cd (skyX l))) := by
   unfold ca
   rw [if_neg (by omega),hr]
  have hgood := readGV_good hl hr
  obtain ⟨x0,x1,x2,x3,x4,x5,x6,x7,x8,rfl⟩ := list9 hl9
  generalize hp : pasX [x0,x1,x2,x3,x4,x5,x6,x7,x8] = p at *
  generalize hy : skyX [x0,x1,x2,x3,x4,x5,x6,x7,x8] = y at *
  have c5 : H5[bg]? = some (.cells (p.cells ++ y.cells) true 0) := by rw [c5,← hp,← hy]; rfl
  have lg := ah c5
  have rg : ∀ {o : Nat},aR (some [bg]) (au (ptr bg o)) := by simp [aR,au]
  have ldp : ∀ {H' : List af} {KV : Value → Prop},H'[bg]? = some (.cells (p.cells ++ y.cells) true 0) → KV (.agg ⟨p.cells⟩) → ai true 6 (ptr bg 0) H' KV := fun h hk => ar (c := p.cells) h (Nat.le_of_ble_eq_true rfl) rfl rfl hk
  have ldy : ∀ {H' : List af} {KV : Value → Prop},H'[bg]? = some (.cells (p.cells ++ y.cells) true 0) → KV (.agg ⟨y.cells⟩) → ai true 3 (ptr bg 6) H' KV := fun h hk => ar (c := y.cells) h (Nat.le_of_ble_eq_true rfl) rfl rfl hk
  refine good34n hJ (aP.2 ⟨[bg],aQ (ldp c5 ⟨rg,aQ (ldy c5 ⟨rg,?_⟩)⟩)⟩)
  refine good27 hJ ⟨fun _ _ => rfl,good28 hJ ⟨fun _ _ => rfl,by decide,?_⟩⟩
  refine aK (l := [ab (bR p)]) rfl rfl rfl (Nat.le_of_ble_eq_true rfl) (aK (l := [ab (cd y)]) rfl rfl rfl (Nat.le_of_ble_eq_true rfl) (bu (du fun H6 p6 e6 S6 c6 l6 => ⟨sb1Z S6 lg (by simp),?_⟩)))
  have c6 : H6[p6]? = some (.cells [ab (bR p),ab (cd y)] true 0) := c6
  refine good26 hJ (sli_new (n := 2) (c := 2) c6 rfl rfl) ⟨sb1Z S6 lg (by simp),neqI (ba (fun he => ?_) fun he => ?_)⟩
  ·have c16 := S6.get c15 (by simp)
   have c36 := S6.get c35 (by simp)
   refine bu (bu (da (c := pasN.cells) c16 rfl rfl rfl fun H7 S7 c7 l7 => da (c := skyN.cells) (S7.get c36 (by simp; omega)) rfl rfl rfl fun H8 S8 c8 l8 => ?_))
   exact bad (a := 0) (e := cQ (bR p) (cd y)) rfl rfl rfl rfl rfl hre he (((S05.trans S6).bq S7 (by simp; omega)).bq S8 (by simp; omega)) (S8.get c7 (by simp; omega)) c8
  ·have he0 : cQ (bR p) (cd y) = 0 := Decidable.not_not.1 he
   have hgood := hgood he0
   have c16 := S6.get c15 (by simp)
   have c36 := S6.get c35 (by simp)
   have c56 := S6.get c5 (by simp)
   have lg6 := ah c56
   refine ⟨[bg],aQ (ldp c56 ⟨rg,aQ (ldy c56 ⟨rg,da (c := p.cells) c16 rfl rfl rfl fun H7 S7 c7 l7 => ⟨sb1Z S7 lg6 (by simp; omega),da (c := y.cells) (S7.get c36 (by simp; omega)) rfl rfl rfl fun H8 S8 c8 l8 => ?_⟩⟩)⟩)⟩
   refine retG (p := p) (y := y) (a := 0) (e := 0) rfl rfl rfl rfl rfl (S8.get c7 (by simp; omega)) c8 ?_
   rw [← hgood]
   exact hK H8 (((S05.trans S6).bq S7 (by simp; omega)).bq S8 (by simp; omega))
end
end Go.Proofs.YtlhanfcgdfjhjaaGreatDoor
namespace Go.Proofs.YtlhanfcgdfjhjaaGreatDoor
open Go.Conc Go.Proofs.Tryz
set_option maxRecDepth 100000
set_option maxHeartbeats 4000000
set_option linter.unusedVariables false
section
variable {main : Bool} {J : JT} {n0 : Nat} {h : List af} {K : Value → List af → Prop}
theorem at10 : prog.funcs[10]? = some f10 := by kernel_rfl
theorem body10 : f10.body = some (codeOf f10) := by kernel_rfl
def pl10 : bj := [(7,false,.take 0 (.take 1 (.take 5 (.take 6 (.take 10 (.take 11 (.take 15 (.take 16 (.last 2 true (.take 3 (.take 4 (.last 7 true (.take 8 (.take 9 (.last 12 true (.take 13 (.take 14 (.last 17 true (.take 18 (.take 19 (.take 20 (.fin)))))))))))))))))))))),
 (8,false,.take 0 (.take 1 (.take 2 (.take 3 (.take 7 (.take 8 (.last 4 true (.take 5 (.take 6 (.last 9 true (.take 10 (.take 11 (.take 12 (.fin)))))))))))))),
 (9,false,.take 0 (.take 1 (.take 2 (.take 3 (.take 7 (.take 8 (.take 12 (.take 13 (.last 4 true (.take 5 (.take 6 (.last 9 true (.take 10 (.take 11 (.last 14 true (.take 15 (.take 16 (.take 17 (.take 18 (.fin))))))))))))))))))))]
def ct10 : bB := .bin (.go) (.bin (.go) (.bin (.go) (.cut (.bin (.go) (.cut (.bin (.go) (.cut (.go))))))))
theorem pok10 : aC prog pl10 (codeOf f10) = true := by kernel_rfl
abbrev w10 (J : JT) (n0 : Nat) (p : List Nat) (f : RG) (h : List af) (l : List (RG → List af → Prop)) (K : Value → List af → Prop) : Prop := W prog J 68 n0 10 (aw p (codeOf f10)) f h (aA pl10 prog J 68 n0 10 ct10 p (codeOf f10) l (aq prog [.tmp 4,.tmp 5] n0 K))
theorem e10 {a0 a1 : Value} : W prog J 68 h.length 10 (codeOf f10) (RG.mk (ax [a0,a1]) []) h (aq prog [.tmp 4,.tmp 5] h.length K) =
(cq a0 h fun v1 h2 =>
cq a1 h2 fun v3 h4 =>
ai true 6 v1 h4 fun v5 =>
Good prog J 30 [v5] h4 fun v6 h7 =>
aj prog .neq 35 v6 (ab 0) fun v8 =>
cnd v8
(aI h.length K [] [(Value.string { data := #[] }),v6] h7)
(ai true 3 v3 h7 fun v9 =>
Good prog J 31 [v9] h7 fun v10 h11 =>
aj prog .neq 35 v10 (ab 0) fun v12 =>
cnd v12
(aI h.length K [] [(Value.string { data := #[] }),v10] h11)
(bh (w10 J h.length [1,1,1] (((((((((((((((RG.mk (ax [a0,a1]) []).p 2 v1).p 3 v3).p 4 (Value.string { data := #[] })).p 5 (ab 0)).p 9 v5).p 10 v6).p 6 v6).p 11 v6).p 12 v8).p 14 v9).p 15 v10).p 7 v10).p 16 v10).p 17 v12) h11 [] K)))) := aT pok10 ct10 (by kernel_rfl)
theorem g10 (hJ : Closed prog main J) {a0 a1 : Value} (hs : aD h → W prog J 68 h.length 10 (codeOf f10) (RG.mk (ax [a0,a1]) []) h (aq prog [.tmp 4,.tmp 5] h.length K)) : Good prog J 10 [a0,a1] h K :=
 az hJ mixed at10 body10 (by kernel_rfl) (Nat.le_of_ble_eq_true rfl) hs
theorem s10_1 {f : RG} : w10 J n0 [1,1,1] f h [] K =
((∃ B,aL (f.r 2) 0 fun v1 =>
ai false 1 v1 h fun v2 =>
aR (some B) (au v1) ∧ (aL (f.r 2) 1 fun v3 =>
ai false 1 v3 h fun v4 =>
aR (some B) (au v3) ∧ (aL (f.r 2) 2 fun v5 =>
ai false 1 v5 h fun v6 =>
aR (some B) (au v5) ∧ (aL (f.r 2) 3 fun v7 =>
ai false 1 v7 h fun v8 =>
aR (some B) (au v7) ∧ (Good prog J 29 [v2] h fun v9 h10 =>
aG (some B) h h10 ∧ (aj prog .add 9 (Value.string { data := #[103,114,97,115,115,32] }) v9 fun v11 =>
aj prog .add 9 v11 (Value.string { data := #[32,111,102,32] }) fun v12 =>
Good prog J 29 [v4] h10 fun v13 h14 =>
aG (some B) h h14 ∧ (aj prog .add 9 v12 v13 fun v15 =>
aj prog .add 9 v15 (Value.string { data := #[32,103,114,111,119,115,32] }) fun v16 =>
Good prog J 29 [v6] h14 fun v17 h18 =>
aG (some B) h h18 ∧ (aj prog .add 9 v16 v17 fun v19 =>
aj prog .add 9 v19 (Value.string { data := #[32,116,111,32] }) fun v20 =>
Good prog J 29 [v8] h18 fun v21 h22 =>
aG (some B) h h22 ∧ (aj prog .add 9 v20 v21 fun v23 =>
aj prog .add 9 v23 (Value.string { data := #[10] }) fun v24 =>
bh (w10 J n0 [1,1,1,1] (((((((((((((((((((((f.p 19 v1).p 20 v2).p 24 v3).p 25 v4).p 29 v5).p 30 v6).p 34 v7).p 35 v8).p 21 v9).p 22 v11).p 23 v12).p 26 v13).p 27 v15).p 28 v16).p 31 v17).p 32 v19).p 33 v20).p 36 v21).p 37 v23).p 38 v24).p 8 v24) h22 [] K))))))))))) := sub_eq pok10 ct10 (by kernel_rfl)
theorem s10_2 {f : RG} : w10 J n0 [1,1,1,1] f h [] K =
((∃ B,aj prog .add 9 (f.r 8) (Value.string { data := #[98,101,108,111,119,32] }) fun v1 =>
aL (f.r 2) 4 fun v2 =>
ai false 1 v2 h fun v3 =>
aR (some B) (au v2) ∧ (aL (f.r 2) 5 fun v4 =>
ai false 1 v4 h fun v5 =>
aR (some B) (au v4) ∧ (Good prog J 29 [v3] h fun v6 h7 =>
aG (some B) h h7 ∧ (aj prog .add 9 v1 v6 fun v8 =>
aj prog .add 9 v8 (Value.string { data := #[32,115,108,101,101,112,115,32] }) fun v9 =>
Good prog J 29 [v5] h7 fun v10 h11 =>
aG (some B) h h11 ∧ (aj prog .add 9 v9 v10 fun v12 =>
aj prog .add 9 v12 (Value.string { data := #[10] }) fun v13 =>
bh (w10 J n0 yp6 (((((((((((((f.p 39 (f.r 8)).p 40 v1).p 41 v2).p 42 v3).p 46 v4).p 47 v5).p 43 v6).p 44 v8).p 45 v9).p 48 v10).p 49 v12).p 50 v13).p 8 v13) h11 [] K))))))) := sub_eq pok10 ct10 (by kernel_rfl)
theorem s10_3 {f : RG} : w10 J n0 yp6 f h [] K =
((∃ B,aj prog .add 9 (f.r 8) (Value.string { data := #[115,107,121,32] }) fun v1 =>
aL (f.r 3) 0 fun v2 =>
ai false 1 v2 h fun v3 =>
aR (some B) (au v2) ∧ (aL (f.r 3) 1 fun v4 =>
ai false 1 v4 h fun v5 =>
aR (some B) (au v4) ∧ (aL (f.r 3) 2 fun v6 =>
ai false 1 v6 h fun v7 =>
aR (some B) (au v6) ∧ (Good prog J 29 [v3] h fun v8 h9 =>
aG (some B) h h9 ∧ (aj prog .add 9 v1 v8 fun v10 =>
aj prog .add 9 v10 (Value.string { data := #[32,100,114,121,32] }) fun v11 =>
Good prog J 29 [v5] h9 fun v12 h13 =>
aG (some B) h h13 ∧ (aj prog .add 9 v11 v12 fun v14 =>
aj prog .add 9 v14 (Value.string { data := #[32,119,101,116,32] }) fun v15 =>
Good prog J 29 [v7] h13 fun v16 h17 =>
aG (some B) h h17 ∧ (aj prog .add 9 v15 v16 fun v18 =>
aj prog .add 9 v18 (Value.string { data := #[10] }) fun v19 =>
aI n0 K f.ds [v19,(ab 0)] h17)))))))) := sub_eq pok10 ct10 (by kernel_rfl)
end
section
variable {main : Bool} {J : JT} {n0 : Nat} {h : List af} {K : Value → List af → Prop}
theorem at56 : prog.funcs[56]? = some f56 := by kernel_rfl
theorem body56 : f56.body = some (codeOf f56) := by kernel_rfl
def pl56 : bj := []
def ct56 : bB := .go
theorem pok56 : aC prog pl56 (codeOf f56) = true := by kernel_rfl
theorem e56 {a0 a1 a2 : Value} : W prog J 15 h.length 56 (codeOf f56) (RG.mk (ax [a0,a1,a2]) []) h (aq prog [.tmp 6] h.length K) =
(aj prog .geq 3 a0 a1 fun v1 =>
cnd v1
(aj prog .leq 3 a0 a2 fun v2 =>
aI h.length K [] [v2] h)
(aI h.length K [] [(Value.bool false)] h)) := aT pok56 ct56 (by kernel_rfl)
theorem g56 (hJ : Closed prog main J) {a0 a1 a2 : Value} (hs : aD h → W prog J 15 h.length 56 (codeOf f56) (RG.mk (ax [a0,a1,a2]) []) h (aq prog [.tmp 6] h.length K)) : Good prog J 56 [a0,a1,a2] h K :=
 az hJ mixed at56 body56 (by kernel_rfl) (Nat.le_of_ble_eq_true rfl) hs
theorem at30 : prog.funcs[30]? = some f30 := by kernel_rfl
theorem body30 : f30.body = some (codeOf f30) := by kernel_rfl
def pl30 : bj := []
def ct30 : bB := .bin (.go) (.bin (.bin (.go) (.cut (.go))) (.go))
theorem pok30 : aC prog pl30 (codeOf f30) = true := by kernel_rfl
abbrev w30 (J : JT) (n0 : Nat) (p : List Nat) (f : RG) (h : List af) (l : List (RG → List af → Prop)) (K : Value → List af → Prop) : Prop := W prog J 43 n0 30 (aw p (codeOf f30)) f h (aA pl30 prog J 43 n0 30 ct30 p (codeOf f30) l (aq prog [.tmp 2] n0 K))
theorem e30 {a0 : Value} : W prog J 43 h.length 30 (codeOf f30) (RG.mk (ax [a0]) []) h (aq prog [.tmp 2] h.length K) =
(cq a0 h fun v1 h2 =>
aL v1 1 fun v3 =>
ai false 1 v3 h2 fun v4 =>
Good prog J 56 [v4,(ab 1),(ab 99)] h2 fun v5 h6 =>
aUn .not v5 fun v7 =>
cnd v7
(bh (w30 J h.length [1,0,1] ((((((((((((((((((((((((((((((((((((((((((((((((RG.mk (ax [a0]) []).p 1 v1).p 2 (ab 0)).p 3 v3).p 4 v4).p 5 v5).p 6 v7).p 7 v7).p 7 (Value.bool true)).p 8 undef).p 9 undef).p 10 undef).p 11 undef).p 12 undef).p 13 undef).p 14 (Value.bool true)).p 15 (Value.bool true)).p 15 (Value.bool true)).p 16 undef).p 17 undef).p 18 undef).p 19 undef).p 20 (Value.bool true)).p 21 (Value.bool true)).p 21 (Value.bool true)).p 22 undef).p 23 undef).p 24 undef).p 25 undef).p 26 undef).p 27 undef).p 28 (Value.bool true)).p 29 (Value.bool true)).p 29 (Value.bool true)).p 30 undef).p 31 undef).p 32 undef).p 33 undef).p 34 undef).p 35 undef).p 36 (Value.bool true)).p 37 (Value.bool true)).p 37 (Value.bool true)).p 38 undef).p 39 undef).p 40 undef).p 41 undef).p 42 (Value.bool true)) h6 [] K))
(aL v1 0 fun v8 =>
ai false 1 v8 h6 fun v9 =>
aL v1 1 fun v10 =>
ai false 1 v10 h6 fun v11 =>
Good prog J 56 [v9,(ab 0),v11] h6 fun v12 h13 =>
aUn .not v12 fun v14 =>
cnd v14
(bh (w30 J h.length [1,0,1] ((((((((((((((((((((((((((((((((((((((((((((((((RG.mk (ax [a0]) []).p 1 v1).p 2 (ab 0)).p 3 v3).p 4 v4).p 5 v5).p 6 v7).p 7 v7).p 7 (Value.bool false)).p 8 v8).p 9 v9).p 10 v10).p 11 v11).p 12 v12).p 13 v14).p 14 v14).p 15 v14).p 15 (Value.bool true)).p 16 undef).p 17 undef).p 18 undef).p 19 undef).p 20 (Value.bool true)).p 21 (Value.bool true)).p 21 (Value.bool true)).p 22 undef).p 23 undef).p 24 undef).p 25 undef).p 26 undef).p 27 undef).p 28 (Value.bool true)).p 29 (Value.bool true)).p 29 (Value.bool true)).p 30 undef).p 31 undef).p 32 undef).p 33 undef).p 34 undef).p 35 undef).p 36 (Value.bool true)).p 37 (Value.bool true)).p 37 (Value.bool true)).p 38 undef).p 39 undef).p 40 undef).p 41 undef).p 42 (Value.bool true)) h13 [] K))
(aL v1 2 fun v15 =>
ai false 1 v15 h13 fun v16 =>
Good prog J 56 [v16,(ab 0),(ab 9)] h13 fun v17 h18 =>
aUn .not v17 fun v19 =>
cnd v19
(bh (w30 J h.length [1,0,1] ((((((((((((((((((((((((((((((((((((((((((((((((RG.mk (ax [a0]) []).p 1 v1).p 2 (ab 0)).p 3 v3).p 4 v4).p 5 v5).p 6 v7).p 7 v7).p 7 (Value.bool false)).p 8 v8).p 9 v9).p 10 v10).p 11 v11).p 12 v12).p 13 v14).p 14 v14).p 15 v14).p 15 (Value.bool false)).p 16 v15).p 17 v16).p 18 v17).p 19 v19).p 20 v19).p 21 v19).p 21 (Value.bool true)).p 22 undef).p 23 undef).p 24 undef).p 25 undef).p 26 undef).p 27 undef).p 28 (Value.bool true)).p 29 (Value.bool true)).p 29 (Value.bool true)).p 30 undef).p 31 undef).p 32 undef).p 33 undef).p 34 undef).p 35 undef).p 36 (Value.bool true)).p 37 (Value.bool true)).p 37 (Value.bool true)).p 38 undef).p 39 undef).p 40 undef).p 41 undef).p 42 (Value.bool true)) h18 [] K))
(aL v1 3 fun v20 =>
ai false 1 v20 h18 fun v21 =>
aL v1 2 fun v22 =>
ai false 1 v22 h18 fun v23 =>
Good prog J 56 [v21,v23,(ab 9)] h18 fun v24 h25 =>
aUn .not v24 fun v26 =>
cnd v26
(bh (w30 J h.length [1,0,1] ((((((((((((((((((((((((((((((((((((((((((((((((RG.mk (ax [a0]) []).p 1 v1).p 2 (ab 0)).p 3 v3).p 4 v4).p 5 v5).p 6 v7).p 7 v7).p 7 (Value.bool false)).p 8 v8).p 9 v9).p 10 v10).p 11 v11).p 12 v12).p 13 v14).p 14 v14).p 15 v14).p 15 (Value.bool false)).p 16 v15).p 17 v16).p 18 v17).p 19 v19).p 20 v19).p 21 v19).p 21 (Value.bool false)).p 22 v20).p 23 v21).p 24 v22).p 25 v23).p 26 v24).p 27 v26).p 28 v26).p 29 v26).p 29 (Value.bool true)).p 30 undef).p 31 undef).p 32 undef).p 33 undef).p 34 undef).p 35 undef).p 36 (Value.bool true)).p 37 (Value.bool true)).p 37 (Value.bool true)).p 38 undef).p 39 undef).p 40 undef).p 41 undef).p 42 (Value.bool true)) h25 [] K))
(aL v1 4 fun v27 =>
ai false 1 v27 h25 fun v28 =>
aL v1 1 fun v29 =>
ai false 1 v29 h25 fun v30 =>
Good prog J 56 [v28,(ab 0),v30] h25 fun v31 h32 =>
aUn .not v31 fun v33 =>
cnd v33
(bh (w30 J h.length [1,0,1] ((((((((((((((((((((((((((((((((((((((((((((((((RG.mk (ax [a0]) []).p 1 v1).p 2 (ab 0)).p 3 v3).p 4 v4).p 5 v5).p 6 v7).p 7 v7).p 7 (Value.bool false)).p 8 v8).p 9 v9).p 10 v10).p 11 v11).p 12 v12).p 13 v14).p 14 v14).p 15 v14).p 15 (Value.bool false)).p 16 v15).p 17 v16).p 18 v17).p 19 v19).p 20 v19).p 21 v19).p 21 (Value.bool false)).p 22 v20).p 23 v21).p 24 v22).p 25 v23).p 26 v24).p 27 v26).p 28 v26).p 29 v26).p 29 (Value.bool false)).p 30 v27).p 31 v28).p 32 v29).p 33 v30).p 34 v31).p 35 v33).p 36 v33).p 37 v33).p 37 (Value.bool true)).p 38 undef).p 39 undef).p 40 undef).p 41 undef).p 42 (Value.bool true)) h32 [] K))
(aL v1 5 fun v34 =>
ai false 1 v34 h32 fun v35 =>
Good prog J 56 [v35,(ab 0),(ab 5)] h32 fun v36 h37 =>
aUn .not v36 fun v38 =>
bh (w30 J h.length [1,0,1] ((((((((((((((((((((((((((((((((((((((((((((((((RG.mk (ax [a0]) []).p 1 v1).p 2 (ab 0)).p 3 v3).p 4 v4).p 5 v5).p 6 v7).p 7 v7).p 7 (Value.bool false)).p 8 v8).p 9 v9).p 10 v10).p 11 v11).p 12 v12).p 13 v14).p 14 v14).p 15 v14).p 15 (Value.bool false)).p 16 v15).p 17 v16).p 18 v17).p 19 v19).p 20 v19).p 21 v19).p 21 (Value.bool false)).p 22 v20).p 23 v21).p 24 v22).p 25 v23).p 26 v24).p 27 v26).p 28 v26).p 29 v26).p 29 (Value.bool false)).p 30 v27).p 31 v28).p 32 v29).p 33 v30).p 34 v31).p 35 v33).p 36 v33).p 37 v33).p 37 (Value.bool false)).p 38 v34).p 39 v35).p 40 v36).p 41 v38).p 42 v38) h37 [] K))))))) := aT pok30 ct30 (by kernel_rfl)
theorem g30 (hJ : Closed prog main J) {a0 : Value} (hs : aD h → W prog J 43 h.length 30 (codeOf f30) (RG.mk (ax [a0]) []) h (aq prog [.tmp 2] h.length K)) : Good prog J 30 [a0] h K :=
 az hJ mixed at30 body30 (by kernel_rfl) (Nat.le_of_ble_eq_true rfl) hs
theorem s30_1 {f : RG} : w30 J n0 [1,0,1] f h [] K =
(cnd (f.r 42)
(aI n0 K f.ds [(ab 1)] h)
(aI n0 K f.ds [(ab 0)] h)) := sub_eq pok30 ct30 (by kernel_rfl)
theorem at31 : prog.funcs[31]? = some f31 := by kernel_rfl
theorem body31 : f31.body = some (codeOf f31) := by kernel_rfl
def pl31 : bj := []
def ct31 : bB := .bin (.go) (.bin (.bin (.go) (.cut (.go))) (.go))
theorem pok31 : aC prog pl31 (codeOf f31) = true := by kernel_rfl
abbrev w31 (J : JT) (n0 : Nat) (p : List Nat) (f : RG) (h : List af) (l : List (RG → List af → Prop)) (K : Value → List af → Prop) : Prop := W prog J 23 n0 31 (aw p (codeOf f31)) f h (aA pl31 prog J 23 n0 31 ct31 p (codeOf f31) l (aq prog [.tmp 2] n0 K))
theorem e31 {a0 : Value} : W prog J 23 h.length 31 (codeOf f31) (RG.mk (ax [a0]) []) h (aq prog [.tmp 2] h.length K) =
(cq a0 h fun v1 h2 =>
aL v1 0 fun v3 =>
ai false 1 v3 h2 fun v4 =>
Good prog J 56 [v4,(ab 1),(ab 8)] h2 fun v5 h6 =>
aUn .not v5 fun v7 =>
cnd v7
(bh (w31 J h.length [1,0,1] (((((((((((((((((((((((((RG.mk (ax [a0]) []).p 1 v1).p 2 (ab 0)).p 3 v3).p 4 v4).p 5 v5).p 6 v7).p 7 v7).p 7 (Value.bool true)).p 8 undef).p 9 undef).p 10 undef).p 11 undef).p 12 undef).p 13 undef).p 14 (Value.bool true)).p 15 (Value.bool true)).p 15 (Value.bool true)).p 16 undef).p 17 undef).p 18 undef).p 19 undef).p 20 undef).p 21 undef).p 22 (Value.bool true)) h6 [] K))
(aL v1 1 fun v8 =>
ai false 1 v8 h6 fun v9 =>
aL v1 0 fun v10 =>
ai false 1 v10 h6 fun v11 =>
Good prog J 56 [v9,(ab 1),v11] h6 fun v12 h13 =>
aUn .not v12 fun v14 =>
cnd v14
(bh (w31 J h.length [1,0,1] (((((((((((((((((((((((((RG.mk (ax [a0]) []).p 1 v1).p 2 (ab 0)).p 3 v3).p 4 v4).p 5 v5).p 6 v7).p 7 v7).p 7 (Value.bool false)).p 8 v8).p 9 v9).p 10 v10).p 11 v11).p 12 v12).p 13 v14).p 14 v14).p 15 v14).p 15 (Value.bool true)).p 16 undef).p 17 undef).p 18 undef).p 19 undef).p 20 undef).p 21 undef).p 22 (Value.bool true)) h13 [] K))
(aL v1 2 fun v15 =>
ai false 1 v15 h13 fun v16 =>
aL v1 0 fun v17 =>
ai false 1 v17 h13 fun v18 =>
Good prog J 56 [v16,(ab 1),v18] h13 fun v19 h20 =>
aUn .not v19 fun v21 =>
bh (w31 J h.length [1,0,1] (((((((((((((((((((((((((RG.mk (ax [a0]) []).p 1 v1).p 2 (ab 0)).p 3 v3).p 4 v4).p 5 v5).p 6 v7).p 7 v7).p 7 (Value.bool false)).p 8 v8).p 9 v9).p 10 v10).p 11 v11).p 12 v12).p 13 v14).p 14 v14).p 15 v14).p 15 (Value.bool false)).p 16 v15).p 17 v16).p 18 v17).p 19 v18).p 20 v19).p 21 v21).p 22 v21) h20 [] K)))) := aT pok31 ct31 (by kernel_rfl)
theorem g31 (hJ : Closed prog main J) {a0 : Value} (hs : aD h → W prog J 23 h.length 31 (codeOf f31) (RG.mk (ax [a0]) []) h (aq prog [.tmp 2] h.length K)) : Good prog J 31 [a0] h K :=
 az hJ mixed at31 body31 (by kernel_rfl) (Nat.le_of_ble_eq_true rfl) hs
theorem s31_1 {f : RG} : w31 J n0 [1,0,1] f h [] K =
(cnd (f.r 22)
(aI n0 K f.ds [(ab 1)] h)
(aI n0 K f.ds [(ab 0)] h)) := sub_eq pok31 ct31 (by kernel_rfl)
end
end Go.Proofs.YtlhanfcgdfjhjaaGreatDoor
namespace Go.Proofs.YtlhanfcgdfjhjaaGreatDoor
open Go.Conc Go.Proofs.Tryz
set_option maxRecDepth 100000
section
variable {main : Bool} {J : JT} {h H : List af} {K : Value → List af → Prop} {KV : Value → Prop} {HL : List af → Prop} {n0 : Nat}
theorem good56 (hJ : Closed prog main J) {n lo hi : Int} (hK : K (.bool (decide (lo ≤ n ∧ n ≤ hi))) h) : Good prog J 56 [ab n,ab lo,ab hi] h K := by
 refine g56 hJ fun ok => ?_
 rw [e56]
 refine geqI (ba (fun h1 => leqI (ao (by simp [unk]) ?_)) fun h1 => ao (by simp [unk]) ?_)
 ·simpa [pack,h1] using hK
 ·simpa [pack,h1] using hK
theorem good30 (hJ : Closed prog main J) {p : Pas} (hK : K (ab (bR p)) h) : Good prog J 30 [.agg ⟨p.cells⟩] h K := by
 refine g30 hJ fun ok => ?_
 rw [e30]
 refine dk (l := p.cells) rfl fun H1 p1 e1 S1 c1 l1 => ?_
 have fin : ∀ e : Int,bR p = e → aI h.length K [] [ab e] H1 := fun e he => by
  subst he
  exact retX ok (Nat.le_refl _) S1 (by simp) (by simp [unk]) (by simp [pack,VOk]) hK
 have no : ∀ {q : Prop},(cA p → q) → ¬ q → aI h.length K [] [ab 1] H1 := fun a b => fin 1 (by unfold bR; rw [if_neg fun x => b (a x)])
 refine aQ (ldI (v := ab p.bears) c1 rfl rfl (good56 hJ (dU (cndN (fun h1 => hold.2 ?_) fun h1 => ?_))))
 ·rw [s30_1]
  exact bm.2 (no (fun x => x.1) h1)
 refine aQ (ldI (v := ab p.grass) c1 rfl rfl (aQ (ldI (v := ab p.bears) c1 rfl rfl (good56 hJ (dU (cndN (fun h2 => hold.2 ?_) fun h2 => ?_))))))
 ·rw [s30_1]
  exact bm.2 (no (fun x => x.2.1) h2)
 refine aQ (ldI (v := ab p.dry) c1 rfl rfl (good56 hJ (dU (cndN (fun h3 => hold.2 ?_) fun h3 => ?_))))
 ·rw [s30_1]
  exact bm.2 (no (fun x => x.2.2.1) h3)
 refine aQ (ldI (v := ab p.wet) c1 rfl rfl (aQ (ldI (v := ab p.dry) c1 rfl rfl (good56 hJ (dU (cndN (fun h4 => hold.2 ?_) fun h4 => ?_))))))
 ·rw [s30_1]
  exact bm.2 (no (fun x => x.2.2.2.1) h4)
 refine aQ (ldI (v := ab p.stubble) c1 rfl rfl (aQ (ldI (v := ab p.bears) c1 rfl rfl (good56 hJ (dU (cndN (fun h5 => hold.2 ?_) fun h5 => ?_))))))
 ·rw [s30_1]
  exact bm.2 (no (fun x => x.2.2.2.2.1) h5)
 refine aQ (ldI (v := ab p.sleep) c1 rfl rfl (good56 hJ (dU (hold.2 ?_))))
 rw [s30_1]
 refine cndN (fun h6 => no (fun x => x.2.2.2.2.2) h6) fun h6 => fin 0 ?_
 unfold bR
 rw [if_pos ⟨h1,h2,h3,h4,h5,h6⟩]
theorem good31 (hJ : Closed prog main J) {s : aU} (hK : K (ab (cd s)) h) : Good prog J 31 [.agg ⟨s.cells⟩] h K := by
 refine g31 hJ fun ok => ?_
 rw [e31]
 refine dk (l := s.cells) rfl fun H1 p1 e1 S1 c1 l1 => ?_
 have fin : ∀ e : Int,cd s = e → aI h.length K [] [ab e] H1 := fun e he => by
  subst he
  exact retX ok (Nat.le_refl _) S1 (by simp) (by simp [unk]) (by simp [pack,VOk]) hK
 have no : ∀ {q : Prop},(cL s → q) → ¬ q → aI h.length K [] [ab 1] H1 := fun a b => fin 1 (by unfold cd; rw [if_neg fun x => b (a x)])
 refine aQ (ldI (v := ab s.days) c1 rfl rfl (good56 hJ (dU (cndN (fun h1 => hold.2 ?_) fun h1 => ?_))))
 ·rw [s31_1]
  exact bm.2 (no (fun x => x.1) h1)
 refine aQ (ldI (v := ab s.drought) c1 rfl rfl (aQ (ldI (v := ab s.days) c1 rfl rfl (good56 hJ (dU (cndN (fun h2 => hold.2 ?_) fun h2 => ?_))))))
 ·rw [s31_1]
  exact bm.2 (no (fun x => x.2.1) h2)
 refine aQ (ldI (v := ab s.flood) c1 rfl rfl (aQ (ldI (v := ab s.days) c1 rfl rfl (good56 hJ (dU (hold.2 ?_))))))
 rw [s31_1]
 refine cndN (fun h3 => no (fun x => x.2.2) h3) fun h3 => fin 0 ?_
 unfold cd
 rw [if_pos ⟨h1,h2,h3⟩]
end
def dw1 (a b c d : List UInt8) : List UInt8 := [103,114,97,115,115,32] ++ a ++ [32,111,102,32] ++ b ++ [32,103,114,111,119,115,32] ++ c ++ [32,116,111,32] ++ d ++ [10]
def dw2 (t a b : List UInt8) : List UInt8 := t ++ [98,101,108,111,119,32] ++ a ++ [32,115,108,101,101,112,115,32] ++ b ++ [10]
def dw3 (t a b c : List UInt8) : List UInt8 := t ++ [115,107,121,32] ++ a ++ [32,100,114,121,32] ++ b ++ [32,119,101,116,32] ++ c ++ [10]
def nmB (x : Int) : List UInt8 := num2 x.toNat
theorem nmB_len (x : Int) : (nmB x).length ≤ 2 := (num2_len _).1
theorem dw_text (p : Pas) (s : aU) : dw3 (dw2 (dw1 (nmB p.grass) (nmB p.bears) (nmB p.dry) (nmB p.wet)) (nmB p.stubble) (nmB p.sleep)) (nmB s.days) (nmB s.drought) (nmB s.flood) = textP p s := by
 simp [dw1,dw2,dw3,nmB,textP,linesP,lineP,wordsP,gN,joinR]
theorem fst2Zok {p : Pas} {s : aU} (h : cQ (bR p) (cd s) = 0) : cA p ∧ cL s := by
 unfold cQ at h
 split at h
 ·rename_i hp
  exact absurd h hp
 ·rename_i hp
  refine ⟨?_,?_⟩
  ·unfold bR at hp
   split at hp
   ·assumption
   ·exact absurd (by decide) hp
  ·unfold cd at h
   split at h
   ·assumption
   ·cases h
section
variable {main : Bool} {J : JT} {H H' : List af} {K : Value → List af → Prop} {KV : Value → Prop} {F : RG} {n0 b1 b3 : Nat} {p : Pas} {s : aU}
theorem itoaI (hJ : Closed prog main J) {x : Int} (hx : 0 ≤ x ∧ x ≤ 99) (hK : K (ay (nmB x)) H) : Good prog J 29 [ab x] H K := by
 obtain ⟨n,rfl⟩ := Int.eq_ofNat_of_zero_le hx.1
 have : n < 100 := by omega
 exact good29 hJ this hK
theorem dwr_3 (hJ : Closed prog main J) (hs : cL s) {t : List UInt8} (ht : t.length ≤ 200) (ds : F.ds = []) (r3 : F.r 3 = ptr b3 0) (r8 : F.r 8 = ay t) (c3 : H[b3]? = some (.cells s.cells true 0)) (hK : K (.tuple ⟨[ay (dw3 t (nmB s.days) (nmB s.drought) (nmB s.flood)),ab 0]⟩) H) :
  w10 J n0 yp6 F H [] K := by
 rw [s10_3]
 simp only [ds,r3,r8]
 unfold cL at hs
 have rd : ∀ {o : Nat},aR (some [b3]) (au (ptr b3 o)) := by simp [aR,au]
 have a := nmB_len s.days
 have b := nmB_len s.drought
 have c := nmB_len s.flood
 refine ⟨[b3],dw (v := [115,107,121,32]) (by simp; omega) (aQ (ldI (v := ab s.days) c3 rfl rfl ⟨rd,aQ (ldI (v := ab s.drought) c3 rfl rfl ⟨rd,aQ (ldI (v := ab s.flood) c3 rfl rfl ⟨rd,?_⟩)⟩)⟩))⟩
 refine itoaI hJ (by omega) ⟨fun _ _ => rfl,dw (by simp; omega) (dw (v := [32,100,114,121,32]) (by simp; omega) ?_)⟩
 refine itoaI hJ (by omega) ⟨fun _ _ => rfl,dw (by simp; omega) (dw (v := [32,119,101,116,32]) (by simp; omega) ?_)⟩
 refine itoaI hJ (by omega) ⟨fun _ _ => rfl,dw (by simp; omega) (dw (v := [10]) (by simp; omega) ?_)⟩
 exact ao (by simp [unk,ay]) hK
theorem dwr_2 (hJ : Closed prog main J) (hp : cA p) (hs : cL s) {t : List UInt8} (ht : t.length ≤ 100) (ds : F.ds = []) (r2 : F.r 2 = ptr b1 0) (r3 : F.r 3 = ptr b3 0) (r8 : F.r 8 = ay t) (c1 : H[b1]? = some (.cells p.cells true 0)) (c3 : H[b3]? = some (.cells s.cells true 0))
  (hK : K (.tuple ⟨[ay (dw3 (dw2 t (nmB p.stubble) (nmB p.sleep)) (nmB s.days) (nmB s.drought) (nmB s.flood)),ab 0]⟩) H) :
  w10 J n0 [1,1,1,1] F H [] K := by
 rw [s10_2]
 simp only [r2,r8]
 have hp' := hp
 unfold cA at hp'
 have rd : ∀ {o : Nat},aR (some [b1]) (au (ptr b1 o)) := by simp [aR,au]
 have a := nmB_len p.stubble
 have b := nmB_len p.sleep
 refine ⟨[b1],dw (v := [98,101,108,111,119,32]) (by simp; omega) (aQ (ldI (v := ab p.stubble) c1 rfl rfl ⟨rd,aQ (ldI (v := ab p.sleep) c1 rfl rfl ⟨rd,?_⟩)⟩))⟩
 refine itoaI hJ (by omega) ⟨fun _ _ => rfl,dw (by simp; omega) (dw (v := [32,115,108,101,101,112,115,32]) (by simp; omega) ?_)⟩
 refine itoaI hJ (by omega) ⟨fun _ _ => rfl,dw (by simp; omega) (dw (v := [10]) (by simp; omega) (hold.2 ?_))⟩
 exact dwr_3 hJ hs (t := dw2 t (nmB p.stubble) (nmB p.sleep)) (by simp [dw2]; omega) ds r3 rfl c3 hK
theorem dwr_1 (hJ : Closed prog main J) (hp : cA p) (hs : cL s) (ds : F.ds = []) (r2 : F.r 2 = ptr b1 0) (r3 : F.r 3 = ptr b3 0) (c1 : H[b1]? = some (.cells p.cells true 0)) (c3 : H[b3]? = some (.cells s.cells true 0))
  (hK : K (.tuple ⟨[ay (textP p s),ab 0]⟩) H) :
  w10 J n0 [1,1,1] F H [] K := by
 rw [s10_1]
 simp only [r2]
 have hp' := hp
 unfold cA at hp'
 have rd : ∀ {o : Nat},aR (some [b1]) (au (ptr b1 o)) := by simp [aR,au]
 have a := nmB_len p.grass
 have b := nmB_len p.bears
 have c := nmB_len p.dry
 have d := nmB_len p.wet
 refine ⟨[b1],aQ (ldI (v := ab p.grass) c1 rfl rfl ⟨rd,aQ (ldI (v := ab p.bears) c1 rfl rfl ⟨rd,aQ (ldI (v := ab p.dry) c1 rfl rfl ⟨rd,aQ (ldI (v := ab p.wet) c1 rfl rfl ⟨rd,?_⟩)⟩)⟩)⟩)⟩
 refine itoaI hJ (by omega) ⟨fun _ _ => rfl,dw (u := [103,114,97,115,115,32]) (by simp; omega) (dw (v := [32,111,102,32]) (by simp; omega) ?_)⟩
 refine itoaI hJ (by omega) ⟨fun _ _ => rfl,dw (by simp; omega) (dw (v := [32,103,114,111,119,115,32]) (by simp; omega) ?_)⟩
 refine itoaI hJ (by omega) ⟨fun _ _ => rfl,dw (by simp; omega) (dw (v := [32,116,111,32]) (by simp; omega) ?_)⟩
 refine itoaI hJ (by omega) ⟨fun _ _ => rfl,dw (by simp; omega) (dw (v := [10]) (by simp; omega) (hold.2 ?_))⟩
 refine dwr_2 hJ hp hs (t := dw1 (nmB p.grass) (nmB p.bears) (nmB p.dry) (nmB p.wet)) (by simp [dw1]; omega) ds r2 r3 rfl c1 c3 ?_
 rw [dw_text]
 exact hK
theorem good10 (hJ : Closed prog main J) (k1 : ∀ H',cQ (bR p) (cd s) ≠ 0 → ag [] H H' → K (.tuple ⟨[ay [],ab (cQ (bR p) (cd s))]⟩) H') (k2 : ∀ H',cQ (bR p) (cd s) = 0 → ag [] H H' → K (.tuple ⟨[ay (textP p s),ab 0]⟩) H') : Good prog J 10 [.agg ⟨p.cells⟩,.agg ⟨s.cells⟩] H K := by
 refine g10 hJ fun ok => ?_
 rw [e10]
 refine dk (l := p.cells) rfl fun H1 b1 e1 S1 c1 l1 => dk (l := s.cells) rfl fun H2 b3 e2 S2 c3 l2 => ?_
 have c1 := S2.get c1 (by simp)
 have S := S1.trans S2
 refine ar (c := p.cells) c1 (by simp [Pas.cells]) rfl rfl (good30 hJ (neqI (ba (fun he => ?_) fun he => ?_)))
 ·have hf : cQ (bR p) (cd s) = bR p := if_pos he
  rw [hf] at k1
  exact ao (by simp [unk]) (k1 H2 he S)
 ·have hp0 : bR p = 0 := Decidable.not_not.1 he
  have hf : cQ (bR p) (cd s) = cd s := if_neg he
  refine ar (c := s.cells) c3 (by simp [aU.cells]) rfl rfl (good31 hJ (neqI (ba (fun he2 => ?_) fun he2 => hold.2 ?_)))
  ·rw [hf] at k1
   exact ao (by simp [unk]) (k1 H2 he2 S)
  ·have h0 : cQ (bR p) (cd s) = 0 := by rw [hf]; exact Decidable.not_not.1 he2
   obtain ⟨hp,hs⟩ := fst2Zok h0
   exact dwr_1 hJ hp hs rfl rfl rfl c1 c3 (k2 H2 h0 S)
end
end Go.Proofs.YtlhanfcgdfjhjaaGreatDoor
namespace Go.Proofs.YtlhanfcgdfjhjaaGreatDoor
open Go.Conc
abbrev cr (P : Program) (J : JT) (ops : Array Oper) (i d N : Nat) (X : RG → List af → (Value → List af → Prop) → Prop) : Prop :=
 ops[i]? = some (opGet ops i) ∧ (opGet ops i).dst = some d ∧ eb N (opGet ops i) = true ∧ (∀ r,gd ops (opGet ops i) r = some true) ∧ ∀ (f : RG) (h : List af) (H : Value → List af → Prop),opW P (Good P J) (opGet ops i) f.r h H = X f h H
end Go.Proofs.YtlhanfcgdfjhjaaGreatDoor
namespace Go.Proofs.YtlhanfcgdfjhjaaGreatDoor
open Go.Conc Go.Proofs.Tryz
set_option maxRecDepth 100000
set_option maxHeartbeats 4000000
set_option linter.unusedVariables false
section
variable {main : Bool} {J : JT} {n0 : Nat} {h : List af} {K : Value → List af → Prop}
section
variable {Sx : RG → List af → Prop}
theorem at9 : prog.funcs[9]? = some f9 := by kernel_rfl
theorem body9 : f9.body = some (codeOf f9) := by kernel_rfl
def pl9 : bj := [(1,false,.take 0 (.take 2 (.last 1 true (.last 3 true (.last 4 true (.last 5 true (.take 6 (.fin))))))))]
def ct9 : bB := .go
theorem pok9 : aC prog pl9 (trunc 3 (codeOf f9)) = true := by kernel_rfl
theorem e9 {a0 a1 : Value} : W prog J 71 h.length 9 (trunc 3 (codeOf f9)) (RG.mk (ax [a0,a1]) []) h (bc Sx (aq prog [.tmp 4,.tmp 5] h.length K)) =
(cq a0 h fun v1 h2 =>
cq a1 h2 fun v3 h4 =>
(∃ B,ai true 6 v1 h4 fun v5 =>
aR (some B) (au v1) ∧ (ai true 3 v3 h4 fun v6 =>
aR (some B) (au v3) ∧ (Good prog J 27 [v5] h4 fun v7 h8 =>
aG (some B) h4 h8 ∧ (Good prog J 28 [v6] h8 fun v9 h10 =>
aG (some B) h4 h10 ∧ ((((2 * 1 : Nat) ≤ 16777216 ∧ (2 : Nat) ≤ 16777216 ∧ List.length [(ab 0)] = 1) ∧ aH (aV [(ab 0)] 2) [(0,1,v7),(1,1,v9)] fun c11 =>
aX 2 c11 h10 fun v12 h13 =>
aG (some B) h4 h13 ∧ (Good prog J 26 [v12] h13 fun v14 h15 =>
aG (some B) h4 h15 ∧ (aj prog .neq 35 v14 (ab 0) fun v16 =>
cnd v16
(aI h.length K [] [(Value.string { data := #[] }),v14] h15)
(Sx (((((((((((((((RG.mk (ax [a0,a1]) []).p 2 v1).p 3 v3).p 4 (Value.string { data := #[] })).p 5 (ab 0)).p 8 v5).p 10 v6).p 9 v7).p 11 v9).p 12 v12).p 13 v14).p 6 v14).p 14 v14).p 15 v16).p 7 (Value.func (.func 29) #[] #[])) h15)))))))))) := aT pok9 ct9 (by kernel_rfl)
end
noncomputable def aY : Array Oper := opsAt [1,1,1,0] (codeOf f9)
theorem r9_1 : aw [1,1,1,0] (codeOf f9) = .region 5 aY true := by kernel_rfl
theorem z9_1 : aY.size = 56 := by kernel_rfl
theorem o9_1_0 {J : JT} : cr prog J aY 0 17 71 fun f h H => (H (f.r 7) h) := ⟨by kernel_rfl,by kernel_rfl,by kernel_rfl,fun _ => by kernel_rfl,fun _ _ _ => by kernel_rfl⟩
theorem o9_1_1 {J : JT} : cr prog J aY 1 18 71 fun f h H => (aL (f.r 2) 0 fun v1 =>
H v1 h) := ⟨by kernel_rfl,by kernel_rfl,by kernel_rfl,fun _ => by kernel_rfl,fun _ _ _ => by kernel_rfl⟩
theorem o9_1_2 {J : JT} : cr prog J aY 2 19 71 fun f h H => (ai false 1 (f.r 18) h fun v1 =>
H v1 h) := ⟨by kernel_rfl,by kernel_rfl,by kernel_rfl,fun _ => by kernel_rfl,fun _ _ _ => by kernel_rfl⟩
theorem o9_1_3 {J : JT} : cr prog J aY 3 20 71 fun f h H => (dC prog (Good prog J) (f.r 17) [(f.r 19)] h fun v1 h2 =>
H v1 h2) := ⟨by kernel_rfl,by kernel_rfl,by kernel_rfl,fun _ => by kernel_rfl,fun _ _ _ => by kernel_rfl⟩
theorem o9_1_4 {J : JT} : cr prog J aY 4 21 71 fun f h H => (aj prog .add 9 (Value.string { data := #[103,114,97,115,115,32] }) (f.r 20) fun v1 =>
H v1 h) := ⟨by kernel_rfl,by kernel_rfl,by kernel_rfl,fun _ => by kernel_rfl,fun _ _ _ => by kernel_rfl⟩
theorem o9_1_5 {J : JT} : cr prog J aY 5 22 71 fun f h H => (aj prog .add 9 (f.r 21) (Value.string { data := #[32,111,102,32] }) fun v1 =>
H v1 h) := ⟨by kernel_rfl,by kernel_rfl,by kernel_rfl,fun _ => by kernel_rfl,fun _ _ _ => by kernel_rfl⟩
theorem o9_1_6 {J : JT} : cr prog J aY 6 23 71 fun f h H => (H (f.r 7) h) := ⟨by kernel_rfl,by kernel_rfl,by kernel_rfl,fun _ => by kernel_rfl,fun _ _ _ => by kernel_rfl⟩
theorem o9_1_7 {J : JT} : cr prog J aY 7 24 71 fun f h H => (aL (f.r 2) 1 fun v1 =>
H v1 h) := ⟨by kernel_rfl,by kernel_rfl,by kernel_rfl,fun _ => by kernel_rfl,fun _ _ _ => by kernel_rfl⟩
theorem o9_1_8 {J : JT} : cr prog J aY 8 25 71 fun f h H => (ai false 1 (f.r 24) h fun v1 =>
H v1 h) := ⟨by kernel_rfl,by kernel_rfl,by kernel_rfl,fun _ => by kernel_rfl,fun _ _ _ => by kernel_rfl⟩
theorem o9_1_9 {J : JT} : cr prog J aY 9 26 71 fun f h H => (dC prog (Good prog J) (f.r 23) [(f.r 25)] h fun v1 h2 =>
H v1 h2) := ⟨by kernel_rfl,by kernel_rfl,by kernel_rfl,fun _ => by kernel_rfl,fun _ _ _ => by kernel_rfl⟩
theorem o9_1_10 {J : JT} : cr prog J aY 10 27 71 fun f h H => (aj prog .add 9 (f.r 22) (f.r 26) fun v1 =>
H v1 h) := ⟨by kernel_rfl,by kernel_rfl,by kernel_rfl,fun _ => by kernel_rfl,fun _ _ _ => by kernel_rfl⟩
theorem o9_1_11 {J : JT} : cr prog J aY 11 28 71 fun f h H => (aj prog .add 9 (f.r 27) (Value.string { data := #[32,103,114,111,119,115,32] }) fun v1 =>
H v1 h) := ⟨by kernel_rfl,by kernel_rfl,by kernel_rfl,fun _ => by kernel_rfl,fun _ _ _ => by kernel_rfl⟩
theorem o9_1_12 {J : JT} : cr prog J aY 12 29 71 fun f h H => (H (f.r 7) h) := ⟨by kernel_rfl,by kernel_rfl,by kernel_rfl,fun _ => by kernel_rfl,fun _ _ _ => by kernel_rfl⟩
theorem o9_1_13 {J : JT} : cr prog J aY 13 30 71 fun f h H => (aL (f.r 2) 2 fun v1 =>
H v1 h) := ⟨by kernel_rfl,by kernel_rfl,by kernel_rfl,fun _ => by kernel_rfl,fun _ _ _ => by kernel_rfl⟩
theorem o9_1_14 {J : JT} : cr prog J aY 14 31 71 fun f h H => (ai false 1 (f.r 30) h fun v1 =>
H v1 h) := ⟨by kernel_rfl,by kernel_rfl,by kernel_rfl,fun _ => by kernel_rfl,fun _ _ _ => by kernel_rfl⟩
theorem o9_1_15 {J : JT} : cr prog J aY 15 32 71 fun f h H => (dC prog (Good prog J) (f.r 29) [(f.r 31)] h fun v1 h2 =>
H v1 h2) := ⟨by kernel_rfl,by kernel_rfl,by kernel_rfl,fun _ => by kernel_rfl,fun _ _ _ => by kernel_rfl⟩
theorem o9_1_16 {J : JT} : cr prog J aY 16 33 71 fun f h H => (aj prog .add 9 (f.r 28) (f.r 32) fun v1 =>
H v1 h) := ⟨by kernel_rfl,by kernel_rfl,by kernel_rfl,fun _ => by kernel_rfl,fun _ _ _ => by kernel_rfl⟩
theorem o9_1_17 {J : JT} : cr prog J aY 17 34 71 fun f h H => (aj prog .add 9 (f.r 33) (Value.string { data := #[32,116,111,32] }) fun v1 =>
H v1 h) := ⟨by kernel_rfl,by kernel_rfl,by kernel_rfl,fun _ => by kernel_rfl,fun _ _ _ => by kernel_rfl⟩
theorem o9_1_18 {J : JT} : cr prog J aY 18 35 71 fun f h H => (H (f.r 7) h) := ⟨by kernel_rfl,by kernel_rfl,by kernel_rfl,fun _ => by kernel_rfl,fun _ _ _ => by kernel_rfl⟩
theorem o9_1_19 {J : JT} : cr prog J aY 19 36 71 fun f h H => (aL (f.r 2) 3 fun v1 =>
H v1 h) := ⟨by kernel_rfl,by kernel_rfl,by kernel_rfl,fun _ => by kernel_rfl,fun _ _ _ => by kernel_rfl⟩
theorem o9_1_20 {J : JT} : cr prog J aY 20 37 71 fun f h H => (ai false 1 (f.r 36) h fun v1 =>
H v1 h) := ⟨by kernel_rfl,by kernel_rfl,by kernel_rfl,fun _ => by kernel_rfl,fun _ _ _ => by kernel_rfl⟩
theorem o9_1_21 {J : JT} : cr prog J aY 21 38 71 fun f h H => (dC prog (Good prog J) (f.r 35) [(f.r 37)] h fun v1 h2 =>
H v1 h2) := ⟨by kernel_rfl,by kernel_rfl,by kernel_rfl,fun _ => by kernel_rfl,fun _ _ _ => by kernel_rfl⟩
theorem o9_1_22 {J : JT} : cr prog J aY 22 39 71 fun f h H => (aj prog .add 9 (f.r 34) (f.r 38) fun v1 =>
H v1 h) := ⟨by kernel_rfl,by kernel_rfl,by kernel_rfl,fun _ => by kernel_rfl,fun _ _ _ => by kernel_rfl⟩
theorem o9_1_23 {J : JT} : cr prog J aY 23 40 71 fun f h H => (aj prog .add 9 (f.r 39) (Value.string { data := #[10,98,101,108,111,119,32] }) fun v1 =>
H v1 h) := ⟨by kernel_rfl,by kernel_rfl,by kernel_rfl,fun _ => by kernel_rfl,fun _ _ _ => by kernel_rfl⟩
theorem o9_1_24 {J : JT} : cr prog J aY 24 41 71 fun f h H => (H (f.r 7) h) := ⟨by kernel_rfl,by kernel_rfl,by kernel_rfl,fun _ => by kernel_rfl,fun _ _ _ => by kernel_rfl⟩
theorem o9_1_25 {J : JT} : cr prog J aY 25 42 71 fun f h H => (aL (f.r 2) 4 fun v1 =>
H v1 h) := ⟨by kernel_rfl,by kernel_rfl,by kernel_rfl,fun _ => by kernel_rfl,fun _ _ _ => by kernel_rfl⟩
theorem o9_1_26 {J : JT} : cr prog J aY 26 43 71 fun f h H => (ai false 1 (f.r 42) h fun v1 =>
H v1 h) := ⟨by kernel_rfl,by kernel_rfl,by kernel_rfl,fun _ => by kernel_rfl,fun _ _ _ => by kernel_rfl⟩
theorem o9_1_27 {J : JT} : cr prog J aY 27 44 71 fun f h H => (dC prog (Good prog J) (f.r 41) [(f.r 43)] h fun v1 h2 =>
H v1 h2) := ⟨by kernel_rfl,by kernel_rfl,by kernel_rfl,fun _ => by kernel_rfl,fun _ _ _ => by kernel_rfl⟩
theorem o9_1_28 {J : JT} : cr prog J aY 28 45 71 fun f h H => (aj prog .add 9 (f.r 40) (f.r 44) fun v1 =>
H v1 h) := ⟨by kernel_rfl,by kernel_rfl,by kernel_rfl,fun _ => by kernel_rfl,fun _ _ _ => by kernel_rfl⟩
theorem o9_1_29 {J : JT} : cr prog J aY 29 46 71 fun f h H => (aj prog .add 9 (f.r 45) (Value.string { data := #[32,115,108,101,101,112,115,32] }) fun v1 =>
H v1 h) := ⟨by kernel_rfl,by kernel_rfl,by kernel_rfl,fun _ => by kernel_rfl,fun _ _ _ => by kernel_rfl⟩
theorem o9_1_30 {J : JT} : cr prog J aY 30 47 71 fun f h H => (H (f.r 7) h) := ⟨by kernel_rfl,by kernel_rfl,by kernel_rfl,fun _ => by kernel_rfl,fun _ _ _ => by kernel_rfl⟩
theorem o9_1_31 {J : JT} : cr prog J aY 31 48 71 fun f h H => (aL (f.r 2) 5 fun v1 =>
H v1 h) := ⟨by kernel_rfl,by kernel_rfl,by kernel_rfl,fun _ => by kernel_rfl,fun _ _ _ => by kernel_rfl⟩
theorem o9_1_32 {J : JT} : cr prog J aY 32 49 71 fun f h H => (ai false 1 (f.r 48) h fun v1 =>
H v1 h) := ⟨by kernel_rfl,by kernel_rfl,by kernel_rfl,fun _ => by kernel_rfl,fun _ _ _ => by kernel_rfl⟩
theorem o9_1_33 {J : JT} : cr prog J aY 33 50 71 fun f h H => (dC prog (Good prog J) (f.r 47) [(f.r 49)] h fun v1 h2 =>
H v1 h2) := ⟨by kernel_rfl,by kernel_rfl,by kernel_rfl,fun _ => by kernel_rfl,fun _ _ _ => by kernel_rfl⟩
theorem o9_1_34 {J : JT} : cr prog J aY 34 51 71 fun f h H => (aj prog .add 9 (f.r 46) (f.r 50) fun v1 =>
H v1 h) := ⟨by kernel_rfl,by kernel_rfl,by kernel_rfl,fun _ => by kernel_rfl,fun _ _ _ => by kernel_rfl⟩
theorem o9_1_35 {J : JT} : cr prog J aY 35 52 71 fun f h H => (aj prog .add 9 (f.r 51) (Value.string { data := #[10,115,107,121,32] }) fun v1 =>
H v1 h) := ⟨by kernel_rfl,by kernel_rfl,by kernel_rfl,fun _ => by kernel_rfl,fun _ _ _ => by kernel_rfl⟩
theorem o9_1_36 {J : JT} : cr prog J aY 36 53 71 fun f h H => (H (f.r 7) h) := ⟨by kernel_rfl,by kernel_rfl,by kernel_rfl,fun _ => by kernel_rfl,fun _ _ _ => by kernel_rfl⟩
theorem o9_1_37 {J : JT} : cr prog J aY 37 54 71 fun f h H => (aL (f.r 3) 0 fun v1 =>
H v1 h) := ⟨by kernel_rfl,by kernel_rfl,by kernel_rfl,fun _ => by kernel_rfl,fun _ _ _ => by kernel_rfl⟩
theorem o9_1_38 {J : JT} : cr prog J aY 38 55 71 fun f h H => (ai false 1 (f.r 54) h fun v1 =>
H v1 h) := ⟨by kernel_rfl,by kernel_rfl,by kernel_rfl,fun _ => by kernel_rfl,fun _ _ _ => by kernel_rfl⟩
theorem o9_1_39 {J : JT} : cr prog J aY 39 56 71 fun f h H => (dC prog (Good prog J) (f.r 53) [(f.r 55)] h fun v1 h2 =>
H v1 h2) := ⟨by kernel_rfl,by kernel_rfl,by kernel_rfl,fun _ => by kernel_rfl,fun _ _ _ => by kernel_rfl⟩
theorem o9_1_40 {J : JT} : cr prog J aY 40 57 71 fun f h H => (aj prog .add 9 (f.r 52) (f.r 56) fun v1 =>
H v1 h) := ⟨by kernel_rfl,by kernel_rfl,by kernel_rfl,fun _ => by kernel_rfl,fun _ _ _ => by kernel_rfl⟩
theorem o9_1_41 {J : JT} : cr prog J aY 41 58 71 fun f h H => (aj prog .add 9 (f.r 57) (Value.string { data := #[32,100,114,121,32] }) fun v1 =>
H v1 h) := ⟨by kernel_rfl,by kernel_rfl,by kernel_rfl,fun _ => by kernel_rfl,fun _ _ _ => by kernel_rfl⟩
theorem o9_1_42 {J : JT} : cr prog J aY 42 59 71 fun f h H => (H (f.r 7) h) := ⟨by kernel_rfl,by kernel_rfl,by kernel_rfl,fun _ => by kernel_rfl,fun _ _ _ => by kernel_rfl⟩
theorem o9_1_43 {J : JT} : cr prog J aY 43 60 71 fun f h H => (aL (f.r 3) 1 fun v1 =>
H v1 h) := ⟨by kernel_rfl,by kernel_rfl,by kernel_rfl,fun _ => by kernel_rfl,fun _ _ _ => by kernel_rfl⟩
theorem o9_1_44 {J : JT} : cr prog J aY 44 61 71 fun f h H => (ai false 1 (f.r 60) h fun v1 =>
H v1 h) := ⟨by kernel_rfl,by kernel_rfl,by kernel_rfl,fun _ => by kernel_rfl,fun _ _ _ => by kernel_rfl⟩
theorem o9_1_45 {J : JT} : cr prog J aY 45 62 71 fun f h H => (dC prog (Good prog J) (f.r 59) [(f.r 61)] h fun v1 h2 =>
H v1 h2) := ⟨by kernel_rfl,by kernel_rfl,by kernel_rfl,fun _ => by kernel_rfl,fun _ _ _ => by kernel_rfl⟩
theorem o9_1_46 {J : JT} : cr prog J aY 46 63 71 fun f h H => (aj prog .add 9 (f.r 58) (f.r 62) fun v1 =>
H v1 h) := ⟨by kernel_rfl,by kernel_rfl,by kernel_rfl,fun _ => by kernel_rfl,fun _ _ _ => by kernel_rfl⟩
theorem o9_1_47 {J : JT} : cr prog J aY 47 64 71 fun f h H => (aj prog .add 9 (f.r 63) (Value.string { data := #[32,119,101,116,32] }) fun v1 =>
H v1 h) := ⟨by kernel_rfl,by kernel_rfl,by kernel_rfl,fun _ => by kernel_rfl,fun _ _ _ => by kernel_rfl⟩
theorem o9_1_48 {J : JT} : cr prog J aY 48 65 71 fun f h H => (H (f.r 7) h) := ⟨by kernel_rfl,by kernel_rfl,by kernel_rfl,fun _ => by kernel_rfl,fun _ _ _ => by kernel_rfl⟩
theorem o9_1_49 {J : JT} : cr prog J aY 49 66 71 fun f h H => (aL (f.r 3) 2 fun v1 =>
H v1 h) := ⟨by kernel_rfl,by kernel_rfl,by kernel_rfl,fun _ => by kernel_rfl,fun _ _ _ => by kernel_rfl⟩
theorem o9_1_50 {J : JT} : cr prog J aY 50 67 71 fun f h H => (ai false 1 (f.r 66) h fun v1 =>
H v1 h) := ⟨by kernel_rfl,by kernel_rfl,by kernel_rfl,fun _ => by kernel_rfl,fun _ _ _ => by kernel_rfl⟩
theorem o9_1_51 {J : JT} : cr prog J aY 51 68 71 fun f h H => (dC prog (Good prog J) (f.r 65) [(f.r 67)] h fun v1 h2 =>
H v1 h2) := ⟨by kernel_rfl,by kernel_rfl,by kernel_rfl,fun _ => by kernel_rfl,fun _ _ _ => by kernel_rfl⟩
theorem o9_1_52 {J : JT} : cr prog J aY 52 69 71 fun f h H => (aj prog .add 9 (f.r 64) (f.r 68) fun v1 =>
H v1 h) := ⟨by kernel_rfl,by kernel_rfl,by kernel_rfl,fun _ => by kernel_rfl,fun _ _ _ => by kernel_rfl⟩
theorem o9_1_53 {J : JT} : cr prog J aY 53 70 71 fun f h H => (aj prog .add 9 (f.r 69) (Value.string { data := #[10] }) fun v1 =>
H v1 h) := ⟨by kernel_rfl,by kernel_rfl,by kernel_rfl,fun _ => by kernel_rfl,fun _ _ _ => by kernel_rfl⟩
theorem o9_1_54 {J : JT} : cr prog J aY 54 4 71 fun f h H => (H (f.r 70) h) := ⟨by kernel_rfl,by kernel_rfl,by kernel_rfl,fun _ => by kernel_rfl,fun _ _ _ => by kernel_rfl⟩
theorem o9_1_55 {J : JT} : cr prog J aY 55 5 71 fun f h H => (H (ab 0) h) := ⟨by kernel_rfl,by kernel_rfl,by kernel_rfl,fun _ => by kernel_rfl,fun _ _ _ => by kernel_rfl⟩
def pl9t : bj := [(1,false,.take 0 (.take 2 (.last 1 true (.last 3 true (.last 4 true (.last 5 true (.take 6 (.fin)))))))),
 (5,false,.take 0 (.take 1 (.take 2 (.take 6 (.take 7 (.take 8 (.take 12 (.take 13 (.take 14 (.take 18 (.take 19 (.take 20 (.take 24 (.take 25 (.take 26 (.take 30 (.take 31 (.take 32 (.take 36 (.take 37 (.take 38 (.take 42 (.take 43 (.take 44 (.take 48 (.take 49 (.take 50 (.last 3 true (.take 4 (.take 5 (.last 9 true (.take 10 (.take 11 (.last 15 true (.take 16 (.take 17 (.last 21 true (.take 22 (.take 23 (.last 27 true (.take 28 (.take 29 (.last 33 true (.take 34 (.take 35 (.last 39 true (.take 40 (.take 41 (.last 45 true (.take 46 (.take 47 (.last 51 true (.take 52 (.take 53 (.take 54 (.take 55 (.fin)))))))))))))))))))))))))))))))))))))))))))))))))))))))))]
def ct9t : bB := .bin (.go) (.bin (.go) (.bin (.go) (.bin (.go) (.cut (.go)))))
theorem pok9t : aC prog pl9t (codeOf f9) = true := by kernel_rfl
abbrev w9t (J : JT) (n0 : Nat) (p : List Nat) (f : RG) (h : List af) (l : List (RG → List af → Prop)) (K : Value → List af → Prop) : Prop := W prog J 71 n0 9 (aw p (codeOf f9)) f h (aA pl9t prog J 71 n0 9 ct9t p (codeOf f9) l (aq prog [.tmp 4,.tmp 5] n0 K))
theorem s9t_1 {f : RG} : w9t J n0 [1,1,1,1] f h [] K =
(aI n0 K f.ds [(f.r 4),(f.r 5)] h) := sub_eq pok9t ct9t (by kernel_rfl)
end
end Go.Proofs.YtlhanfcgdfjhjaaGreatDoor
namespace Go.Proofs.YtlhanfcgdfjhjaaGreatDoor
open Go.Conc
theorem count_set : ∀ (l : List Bool) (i : Nat),l[i]? = some false → (l.set i true).count false + 1 = l.count false
 | [],i,h => by simp at h
 | b :: l,0,h => by
  have : b = false := by simpa using h
  subst this
  simp
 | b :: l,i + 1,h => by
  have h' : l[i]? = some false := by simpa using h
  have ih := count_set l i h'
  rw [List.set_cons_succ,List.count_cons,List.count_cons]
  omega
section
variable {P : Program} {main : Bool} {J : JT} {N n0 : Nat} {fn : FuncId} {ops : Array Oper} {f : RG} {h : List af} {Q : QT}
theorem AnyH_inv {C : FuncId → List Value → List af → (Value → List af → Prop) → Prop} {I : Array Bool → RG → List af → Prop} {K : RG → List af → Prop}
  (step : ∀ L f h i o,I L f h → i ∈ Region.ready .any ops L → ops[i]? = some o → (∀ t,o.dst = some t → t < N) ∧ opM P C ops o f.r h fun v h' => I (L.setIfInBounds i true) (f.cW o.dst v) h')
  (last : ∀ L f h,I L f h → Region.ready .any ops L = [] → K f h) : ∀ (n : Nat) (L : Array Bool) (f : RG) (h : List af),L.size = ops.size → L.toList.count false ≤ n → I L f h → AnyH P C N ops (fun _ => True) n L f h K
 | 0,L,f,h,hs,hn,hi => by
  have hr : Region.ready .any ops L = [] := by
   cases e : Region.ready .any ops L with
   | nil => rfl
   | cons i l =>
    have hm : i ∈ Region.ready .any ops L := by rw [e]; exact List.mem_cons_self
    rw [mem_ready] at hm
    obtain ⟨h1,o,ho,_⟩ := hm
    have hlt : i < L.size := by rw [hs]; exact (Array.getElem?_eq_some_iff.1 ho).1
    have h2 : L.toList[i]? = some false := by
     rw [Array.getElem?_toList,Array.getElem?_eq_getElem hlt]
     rw [Array.getD_eq_getD_getElem?,Array.getElem?_eq_getElem hlt] at h1
     exact congrArg some h1
    have := count_set _ _ h2
    omega
  exact ⟨hr,last L f h hi hr⟩
 | n + 1,L,f,h,hs,hn,hi => by
  refine ⟨last L f h hi,fun i hm o ho => ?_⟩
  obtain ⟨h1,K',h2,h3⟩ := step L f h i o hi hm ho
  refine ⟨h1,K',h2,fun v h' k => ⟨fun _ => trivial,AnyH_inv step last n _ _ _ (by simpa using hs) ?_ (h3 v h' k)⟩⟩
  rw [mem_ready] at hm
  obtain ⟨q1,o',ho',_⟩ := hm
  have hlt : i < L.size := by rw [hs]; exact (Array.getElem?_eq_some_iff.1 ho').1
  have q2 : L.toList[i]? = some false := by
   rw [Array.getElem?_toList,Array.getElem?_eq_getElem hlt]
   rw [Array.getD_eq_getD_getElem?,Array.getElem?_eq_getElem hlt] at q1
   exact congrArg some q1
  have := count_set _ _ q2
  have e : (L.setIfInBounds i true).toList = L.toList.set i true := by simp
  rw [e]
  omega
theorem Sem_region_any (hJ : Closed P main J) (hm : P.follows .mixedOrders = true) {id : Nat} {S : List af → Prop} (hA : AnyH P (Good P J) N ops S ops.size (Array.replicate ops.size false) f h (fun f h => Q .normal f h)) : Sem J N n0 fn (.region id ops true) f h Q := by
 intro b a k cs L ρ FC w ft h1 h2 h3 h4 h5 h6 hc
 refine hJ.step rfl fun w₁ h₁ => ⟨G (b.at a (.inRegion ops (Region.schedule (P.follows .mixedOrders) ops (w₁.tape w₁.drawn (.order b.fn id))) :: k)) cs,{ w₁ with drawn := w₁.drawn + 1 },#[],?_,rfl,(cZ.drawn ft w₁ _).guar (by simp),?_⟩
 ·simp [G,stepG,stepG.exec,FB.at,choose,Go.Sem.run,Question.forced,Question.cut]
 ·rw [show ({ w₁ with drawn := w₁.drawn + 1 } : World).heap = w₁.heap from rfl,aJ.bY]
  have H₁ := (h5.rely h₁).of_drawn (w₁.drawn + 1)
  simp only [Region.schedule,hm,Bool.true_or,if_true]
  exact SemOps_any hJ _ _ _ _ _ hA b a k cs L ρ FC _ ft h1 h2 h3 h4 H₁ h6 hc
def dstsApart (ops : Array Oper) : Bool := (List.range ops.size).all fun i => (List.range ops.size).all fun j => i == j || (match ops[i]?,ops[j]? with
 | some a,some b => match a.dst,b.dst with
  | some x,some y => x != y
  | _,_ => true
 | _,_ => true)
theorem dstsApart_spec (hd : dstsApart ops = true) {i j : Nat} {oi oj : Oper} {t : Nat} (hi : ops[i]? = some oi) (hj : ops[j]? = some oj) (h1 : oi.dst = some t) (h2 : oj.dst = some t) : i = j := by
 have li := (Array.getElem?_eq_some_iff.1 hi).1
 have lj := (Array.getElem?_eq_some_iff.1 hj).1
 have := List.all_eq_true.1 (List.all_eq_true.1 hd i (List.mem_range.2 li)) j (List.mem_range.2 lj)
 rw [hi,hj] at this
 simp only [h1,h2] at this
 simpa using this
def afterLow (ops : Array Oper) : Bool := (List.range ops.size).all fun i => match ops[i]? with
 | some o => o.after.all fun e => !Region.binds .any e || decide (e.on < i)
 | none => true
theorem afterLow_spec (ha : afterLow ops = true) {i : Nat} {o : Oper} (hi : ops[i]? = some o) : ∀ e ∈ o.after,Region.binds .any e = true → e.on < i := by
 have li := (Array.getElem?_eq_some_iff.1 hi).1
 have := List.all_eq_true.1 ha i (List.mem_range.2 li)
 rw [hi] at this
 intro e he hb
 rw [Array.all_eq_true'] at this
 have := this e he
 rw [hb] at this
 simpa using this
theorem all_done (ha : afterLow ops = true) {L : Array Bool} (hs : L.size = ops.size) (hr : Region.ready .any ops L = []) : ∀ i,i < ops.size → L.getD i false = true := by
 intro i
 induction i using Nat.strongRecOn with
 | ind i ih =>
  intro hi
  cases e : L.getD i false with
  | true => rfl
  | false =>
   exfalso
   have ho : ops[i]? = some ops[i] := Array.getElem?_eq_getElem hi
   have hm : i ∈ Region.ready .any ops L := by
    rw [mem_ready]
    refine ⟨?_,ops[i],ho,fun e' he hb' => ?_⟩
    ·rw [Array.getD_eq_getD_getElem?,Array.getElem?_eq_getElem (by omega)] at e ⊢
     exact e
    ·have := afterLow_spec ha ho e' he hb'
     exact ih _ this (by omega)
   rw [hr] at hm
   cases hm
theorem setD {L : Array Bool} {i : Nat} (hi : i < L.size) : (fun j => (L.setIfInBounds i true).getD j false) = fun j => j == i || L.getD j false := by
 funext j
 rw [Array.getD_eq_getD_getElem?,Array.getD_eq_getD_getElem?]
 by_cases e : j = i
 ·subst e
  rw [Array.getElem?_setIfInBounds_self_of_lt hi]
  simp
 ·rw [Array.getElem?_setIfInBounds_ne (Ne.symm e)]
  simp [e]
theorem Sem_vals (hJ : Closed P main J) (hm : P.follows .mixedOrders = true) {id : Nat} (hd : dstsApart ops = true) (ha : afterLow ops = true) (V : Nat → Value → List af → Prop) (B : (Nat → Bool) → List af → Prop) (St : List af → List af → Prop)
  (hV : ∀ j v h h',St h h' → V j v h → V j v h') (h0 : B (fun _ => false) h)
  (step : ∀ (d : Nat → Bool) (i : Nat) (o : Oper) (f1 : RG) (h1 : List af),ops[i]? = some o → d i = false → B d h1 → (∀ t,(∀ (j : Nat) oj,ops[j]? = some oj → oj.dst ≠ some t) → f1.r t = f.r t) → (∀ e ∈ o.after,Region.binds .any e = true → ∀ oe t,ops[e.on]? = some oe → oe.dst = some t → V e.on (f1.r t) h1) →
   (∀ t,o.dst = some t → t < N) ∧ opM P (Good P J) ops o f1.r h1 fun v h' => V i v h' ∧ B (fun j => j == i || d j) h' ∧ St h1 h')
  (last : ∀ (d : Nat → Bool) (f1 : RG) (h1 : List af),B d h1 → f1.ds = f.ds → (∀ t,(∀ (j : Nat) oj,ops[j]? = some oj → oj.dst ≠ some t) → f1.r t = f.r t) → (∀ (i : Nat) o t,ops[i]? = some o → o.dst = some t → V i (f1.r t) h1) → Q .normal f1 h1) : Sem J N n0 fn (.region id ops true) f h Q := by
 refine Sem_region_any hJ hm (AnyH_inv (I := fun L f1 h1 => L.size = ops.size ∧ Down ops L ∧ B (fun j => L.getD j false) h1 ∧ f1.ds = f.ds ∧ (∀ t,(∀ (j : Nat) oj,ops[j]? = some oj → oj.dst ≠ some t) → f1.r t = f.r t) ∧ ∀ (i : Nat) o t,ops[i]? = some o → o.dst = some t → L.getD i false = true → V i (f1.r t) h1) ?_ ?_ _ _ _ _ (by simp) (by simp) ⟨by simp,down_init,?_,rfl,fun _ _ => rfl,fun i o t ho _ hl => by
  have hi := (Array.getElem?_eq_some_iff.1 ho).1
  rw [Array.getD_eq_getD_getElem?,Array.getElem?_replicate,if_pos hi] at hl
  cases hl⟩)
 ·rintro L f1 h1 i o ⟨hs,hD,hB,hds,hout,hin⟩ hm' ho
  have hm2 := hm'
  rw [mem_ready] at hm2
  obtain ⟨q1,o',ho',hall⟩ := hm2
  rw [ho] at ho'
  cases ho'
  have hlt : i < L.size := by rw [hs]; exact (Array.getElem?_eq_some_iff.1 ho).1
  have q2 : L.getD i false = false := by
   rw [Array.getD_eq_getD_getElem?,Array.getElem?_eq_getElem hlt] at q1 ⊢
   exact q1
  obtain ⟨g1,K',g2,g3⟩ := step _ i o f1 h1 ho q2 hB hout fun e he hb oe t hoe hte => hin e.on oe t hoe hte (hall e he hb)
  refine ⟨g1,K',g2,fun v h' k => ?_⟩
  obtain ⟨k1,k2,k3⟩ := g3 v h' k
  refine ⟨by simpa using hs,down_set hD hm',?_,?_,fun t ht => ?_,fun j oj t hj hjt hl => ?_⟩
  ·rw [setD hlt]
   exact k2
  ·rw [← hds]
   cases o.dst <;> rfl
  ·rw [putO_r (fun e => ht i o ho e)]
   exact hout t ht
  ·by_cases e : j = i
   ·subst e
    rw [ho] at hj
    cases hj
    have : (f1.cW o.dst v).r t = v := by
     rw [hjt]
     show (bif t == t then v else f1.r t) = v
     simp
    rw [this]
    exact k1
   ·rw [putO_r (fun e' => e (dstsApart_spec hd hj ho hjt e'))]
    refine hV _ _ _ _ k3 (hin j oj t hj hjt ?_)
    rw [Array.getD_eq_getD_getElem?] at hl ⊢
    rw [Array.getElem?_setIfInBounds_ne (Ne.symm e)] at hl
    exact hl
 ·rintro L f1 h1 ⟨hs,hD,hB,hds,hout,hin⟩ hr
  refine last _ f1 h1 hB hds hout fun i o t ho hot => hin i o t ho hot ?_
  exact all_done ha hs hr i (Array.getElem?_eq_some_iff.1 ho).1
 ·have : (fun j => (Array.replicate ops.size false).getD j false) = fun _ => false := by
   funext j
   rw [Array.getD_eq_getD_getElem?,Array.getElem?_replicate]
   split <;> rfl
  rw [this]
  exact h0
def needs (ops : Array Oper) (i j : Nat) : Bool := match ops[i]? with
 | some o => o.after.any fun e => Nat.beq e.on j && Region.binds .any e
 | none => false
theorem needs_spec {i j : Nat} (hn : needs ops i j = true) {o oj : Oper} {t : Nat} {A : Nat → Nat → Prop} (ho : ops[i]? = some o) (hoj : ops[j]? = some oj) (hjt : oj.dst = some t)
  (hdep : ∀ e ∈ o.after,Region.binds .any e = true → ∀ oe t,ops[e.on]? = some oe → oe.dst = some t → A e.on t) : A j t := by
 unfold needs at hn
 rw [ho] at hn
 simp only [Array.any_eq_true'] at hn
 obtain ⟨e,he,hb⟩ := hn
 rw [Bool.and_eq_true] at hb
 have hx : e.on = j := Nat.eq_of_beq_eq_true hb.1
 subst hx
 exact hdep e he hb.2 oj t hoj hjt
def noDst (ops : Array Oper) (t : Nat) : Bool := ops.all fun o => match o.dst with
 | some x => !Nat.beq x t
 | none => true
theorem noDst_spec {t : Nat} (hn : noDst ops t = true) (j : Nat) (oj : Oper) (hj : ops[j]? = some oj) : oj.dst ≠ some t := by
 unfold noDst at hn
 rw [Array.all_eq_true'] at hn
 intro e
 have := hn oj (Array.mem_of_getElem? hj)
 rw [e] at this
 simp at this
theorem aS {X : RG → List af → (Value → List af → Prop) → Prop} {i d : Nat} {o p : Oper} {K : Value → List af → Prop}
  (e : ops[i]? = some p ∧ p.dst = some d ∧ eb N p = true ∧ (∀ r,gd ops p r = some true) ∧ ∀ (f : RG) (h : List af) (H : Value → List af → Prop),opW P (Good P J) p f.r h H = X f h H)
  (ho : ops[i]? = some o) (hk : X f h K) : (∀ t,o.dst = some t → t < N) ∧ opM P (Good P J) ops o f.r h K := by
 obtain ⟨e1,e2,e3,e4,e5⟩ := e
 rw [e1] at ho
 cases ho
 refine ⟨fun t ht => ?_,K,?_,fun _ _ k => k⟩
 ·unfold eb at e3
  rw [ht] at e3
  simpa [Nat.blt_eq] using e3
 ·unfold opG
  rw [e4]
  show opW P (Good P J) _ f.r h K
  rw [e5]
  exact hk
end
end Go.Proofs.YtlhanfcgdfjhjaaGreatDoor
