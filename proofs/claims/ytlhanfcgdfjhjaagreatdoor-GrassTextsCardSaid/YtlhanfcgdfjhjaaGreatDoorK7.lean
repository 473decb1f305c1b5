/- Parts of the proof, 7. No conditions. -/
import Derived.Test.YtlhanfcgdfjhjaaGreatDoorK6
import Derived.Test.YtlhanfcgdfjhjaaGreatDoorK3
import Derived.Test.YtlhanfcgdfjhjaaGreatDoorK2
import Derived.Test.YtlhanfcgdfjhjaaGreatDoorK5
import Derived.Below
import Derived.Test.YtlhanfcgdfjhjaaGreatDoorRows
import Derived.Conc.LeavingOf
import Derived.ChangeSlices
import Derived.OpenShut
import Derived.Carry
import Derived.Handed
namespace Go.Proofs.YtlhanfcgdfjhjaaGreatDoor
open Go.Conc Go.Proofs.Tryz
set_option maxRecDepth 100000
def gwL : Nat → List UInt8
 | 0 => [103,114,97,115,115,32]
 | 1 => [32,111,102,32]
 | 2 => [32,103,114,111,119,115,32]
 | 3 => [32,116,111,32]
 | 4 => [10,98,101,108,111,119,32]
 | 5 => [32,115,108,101,101,112,115,32]
 | 6 => [10,115,107,121,32]
 | 7 => [32,100,114,121,32]
 | 8 => [32,119,101,116,32]
 | 9 => [10]
 | _ => []
def gwX (p : Pas) (s : aU) : Nat → Int
 | 0 => p.grass
 | 1 => p.bears
 | 2 => p.dry
 | 3 => p.wet
 | 4 => p.stubble
 | 5 => p.sleep
 | 6 => s.days
 | 7 => s.drought
 | 8 => s.flood
 | _ => 0
def gwU (x : Nat → Int) : Nat → List UInt8
 | 0 => gwL 0
 | k + 1 => (gwU x k ++ nmB (x k)) ++ gwL (k + 1)
theorem gwL_len : ∀ k,(gwL k).length ≤ 8
 | 0 => by decide
 | 1 => by decide
 | 2 => by decide
 | 3 => by decide
 | 4 => by decide
 | 5 => by decide
 | 6 => by decide
 | 7 => by decide
 | 8 => by decide
 | 9 => by decide
 | _ + 10 => by simp [gwL]
theorem gwU_len (x : Nat → Int) : ∀ k,(gwU x k).length ≤ 10 * (k + 1)
 | 0 => Nat.le_of_ble_eq_true rfl
 | k + 1 => by
  have := gwU_len x k
  have := gwL_len (k + 1)
  have := nmB_len (x k)
  simp only [gwU,List.length_append]
  omega
theorem gwU_text (p : Pas) (s : aU) : gwU (gwX p s) 9 = textP p s := by
 simp [gwU,gwL,gwX,nmB,textP,linesP,lineP,wordsP,gN,joinR]
def gwV (p : Pas) (s : aU) (b1 b3 j : Nat) : Value :=
 bif Nat.beq j 54 then ay (gwU (gwX p s) 9) else bif Nat.beq j 55 then ab 0 else match j % 6 with
  | 0 => .func (.func 29) #[] #[]
  | 1 => bif Nat.blt (j / 6) 6 then ptr b1 (j / 6) else ptr b3 (j / 6 - 6)
  | 2 => ab (gwX p s (j / 6))
  | 3 => ay (nmB (gwX p s (j / 6)))
  | 4 => ay (gwU (gwX p s) (j / 6) ++ nmB (gwX p s (j / 6)))
  | _ => ay (gwU (gwX p s) (j / 6 + 1))
theorem gwX_ok {p : Pas} {s : aU} (hp : cA p) (hs : cL s) : ∀ k,k < 9 → 0 ≤ gwX p s k ∧ gwX p s k ≤ 99 := by
 unfold cA at hp
 unfold cL at hs
 intro k hk
 match k,hk with
 | 0,_ => show 0 ≤ p.grass ∧ p.grass ≤ 99; omega
 | 1,_ => show 0 ≤ p.bears ∧ p.bears ≤ 99; omega
 | 2,_ => show 0 ≤ p.dry ∧ p.dry ≤ 99; omega
 | 3,_ => show 0 ≤ p.wet ∧ p.wet ≤ 99; omega
 | 4,_ => show 0 ≤ p.stubble ∧ p.stubble ≤ 99; omega
 | 5,_ => show 0 ≤ p.sleep ∧ p.sleep ≤ 99; omega
 | 6,_ => show 0 ≤ s.days ∧ s.days ≤ 99; omega
 | 7,_ => show 0 ≤ s.drought ∧ s.drought ≤ 99; omega
 | 8,_ => show 0 ≤ s.flood ∧ s.flood ≤ 99; omega
section
variable {main : Bool} {J : JT} {H H' : List af} {K : Value → List af → Prop} {KV : Value → Prop} {F : RG} {n0 b1 b3 : Nat} {p : Pas} {s : aU}
theorem callIZ (hJ : Closed prog main J) {x : Int} (hx : 0 ≤ x ∧ x ≤ 99) (hK : K (ay (nmB x)) H) : dC prog (Good prog J) (.func (.func 29) #[] #[]) [ab x] H K := callCz (args := [ab x]) (cap := []) (by kernel_rfl) (itoaI hJ hx hK)
set_option maxHeartbeats 4000000 in
theorem regionW (hJ : Closed prog main J) (hp : cA p) (hs : cL s) {Q : QT} (r2 : F.r 2 = ptr b1 0) (r3 : F.r 3 = ptr b3 0) (r7 : F.r 7 = .func (.func 29) #[] #[]) (c1 : H[b1]? = some (.cells p.cells true 0)) (c3 : H[b3]? = some (.cells s.cells true 0))
  (hS : ∀ f',f'.ds = F.ds → f'.r 4 = ay (textP p s) → f'.r 5 = ab 0 → Q .normal f' H) :
  Sem J 71 n0 9 (aw [1,1,1,0] (codeOf f9)) F H Q := by
 rw [r9_1]
 have z := z9_1
 have ul := gwU_len (gwX p s)
 have nl := fun k => nmB_len (gwX p s k)
 have xo := gwX_ok hp hs
 refine Sem_vals hJ mixed (by kernel_rfl) (by kernel_rfl) (fun j v _ => v = gwV p s b1 b3 j) (fun _ h => h = H) (fun _ _ => True) (fun _ _ _ _ _ a => a) rfl ?_ ?_
 ·intro d i o f1 h1 ho _ hB hout hdep
  subst hB
  have out : ∀ {tt},noDst aY tt = true → f1.r tt = F.r tt := fun hn => hout _ (noDst_spec hn)
  have hi : i < 56 := by
   have := (Array.getElem?_eq_some_iff.1 ho).1
   omega
  have dep : ∀ {j pj tt},needs aY i j = true → (aY[j]? = some pj ∧ pj.dst = some tt) → f1.r tt = gwV p s b1 b3 j := fun hn e => needs_spec (A := fun j tt => f1.r tt = gwV p s b1 b3 j) hn ho e.1 e.2 hdep
  have ok : ∀ {v},v = gwV p s b1 b3 i → v = gwV p s b1 b3 i ∧ h1 = h1 ∧ True := fun e => ⟨e,rfl,trivial⟩
  match i,hi with
  | 0,_ =>
   refine aS o9_1_0 ho ?_
   rw [out (tt := 7) (by kernel_rfl),r7]
   exact ok rfl
  | 1,_ =>
   refine aS o9_1_1 ho ?_
   rw [out (tt := 2) (by kernel_rfl),r2]
   exact aQ (ok (show ptr b1 (0 + 0) = ptr b1 0 by rw [Nat.zero_add]))
  | 2,_ =>
   refine aS o9_1_2 ho ?_
   have u : f1.r 18 = ptr b1 0 := (dep (j := 1) (tt := 18) (by kernel_rfl) ⟨(o9_1_1 (J := J)).1,(o9_1_1 (J := J)).2.1⟩)
   rw [u]
   exact ldI (v := ab p.grass) c1 rfl rfl (ok rfl)
  | 3,_ =>
   refine aS o9_1_3 ho ?_
   have u0 : f1.r 17 = .func (.func 29) #[] #[] := (dep (j := 0) (tt := 17) (by kernel_rfl) ⟨(o9_1_0 (J := J)).1,(o9_1_0 (J := J)).2.1⟩)
   have u1 : f1.r 19 = ab (gwX p s 0) := (dep (j := 2) (tt := 19) (by kernel_rfl) ⟨(o9_1_2 (J := J)).1,(o9_1_2 (J := J)).2.1⟩)
   rw [u0,u1]
   exact callIZ hJ (xo 0 (by decide)) (ok rfl)
  | 4,_ =>
   refine aS o9_1_4 ho ?_
   have u1 : f1.r 20 = ay (nmB (gwX p s 0)) := (dep (j := 3) (tt := 20) (by kernel_rfl) ⟨(o9_1_3 (J := J)).1,(o9_1_3 (J := J)).2.1⟩)
   rw [u1]
   exact dw (u := gwU (gwX p s) 0) (by have := ul 0; have := nl 0; omega) (ok rfl)
  | 5,_ =>
   refine aS o9_1_5 ho ?_
   have u0 : f1.r 21 = ay (gwU (gwX p s) 0 ++ nmB (gwX p s 0)) := (dep (j := 4) (tt := 21) (by kernel_rfl) ⟨(o9_1_4 (J := J)).1,(o9_1_4 (J := J)).2.1⟩)
   rw [u0]
   exact dw (v := gwL 1) (by have := ul 0; have := nl 0; have := gwL_len 1; simp only [List.length_append]; omega) (ok rfl)
  | 6,_ =>
   refine aS o9_1_6 ho ?_
   rw [out (tt := 7) (by kernel_rfl),r7]
   exact ok rfl
  | 7,_ =>
   refine aS o9_1_7 ho ?_
   rw [out (tt := 2) (by kernel_rfl),r2]
   exact aQ (ok (show ptr b1 (0 + 1) = ptr b1 1 by rw [Nat.zero_add]))
  | 8,_ =>
   refine aS o9_1_8 ho ?_
   have u : f1.r 24 = ptr b1 1 := (dep (j := 7) (tt := 24) (by kernel_rfl) ⟨(o9_1_7 (J := J)).1,(o9_1_7 (J := J)).2.1⟩)
   rw [u]
   exact ldI (v := ab p.bears) c1 rfl rfl (ok rfl)
  | 9,_ =>
   refine aS o9_1_9 ho ?_
   have u0 : f1.r 23 = .func (.func 29) #[] #[] := (dep (j := 6) (tt := 23) (by kernel_rfl) ⟨(o9_1_6 (J := J)).1,(o9_1_6 (J := J)).2.1⟩)
   have u1 : f1.r 25 = ab (gwX p s 1) := (dep (j := 8) (tt := 25) (by kernel_rfl) ⟨(o9_1_8 (J := J)).1,(o9_1_8 (J := J)).2.1⟩)
   rw [u0,u1]
   exact callIZ hJ (xo 1 (by decide)) (ok rfl)
  | 10,_ =>
   refine aS o9_1_10 ho ?_
   have u0 : f1.r 22 = ay (gwU (gwX p s) 1) := (dep (j := 5) (tt := 22) (by kernel_rfl) ⟨(o9_1_5 (J := J)).1,(o9_1_5 (J := J)).2.1⟩)
   have u1 : f1.r 26 = ay (nmB (gwX p s 1)) := (dep (j := 9) (tt := 26) (by kernel_rfl) ⟨(o9_1_9 (J := J)).1,(o9_1_9 (J := J)).2.1⟩)
   rw [u0,u1]
   exact dw (by have := ul 1; have := nl 1; omega) (ok rfl)
  | 11,_ =>
   refine aS o9_1_11 ho ?_
   have u0 : f1.r 27 = ay (gwU (gwX p s) 1 ++ nmB (gwX p s 1)) := (dep (j := 10) (tt := 27) (by kernel_rfl) ⟨(o9_1_10 (J := J)).1,(o9_1_10 (J := J)).2.1⟩)
   rw [u0]
   exact dw (v := gwL 2) (by have := ul 1; have := nl 1; have := gwL_len 2; simp only [List.length_append]; omega) (ok rfl)
  | 12,_ =>
   refine aS o9_1_12 ho ?_
   rw [out (tt := 7) (by kernel_rfl),r7]
   exact ok rfl
  | 13,_ =>
   refine aS o9_1_13 ho ?_
   rw [out (tt := 2) (by kernel_rfl),r2]
   exact aQ (ok (show ptr b1 (0 + 2) = ptr b1 2 by rw [Nat.zero_add]))
  | 14,_ =>
   refine aS o9_1_14 ho ?_
   have u : f1.r 30 = ptr b1 2 := (dep (j := 13) (tt := 30) (by kernel_rfl) ⟨(o9_1_13 (J := J)).1,(o9_1_13 (J := J)).2.1⟩)
   rw [u]
   exact ldI (v := ab p.dry) c1 rfl rfl (ok rfl)
  | 15,_ =>
   refine aS o9_1_15 ho ?_
   have u0 : f1.r 29 = .func (.func 29) #[] #[] := (dep (j := 12) (tt := 29) (by kernel_rfl) ⟨(o9_1_12 (J := J)).1,(o9_1_12 (J := J)).2.1⟩)
   have u1 : f1.r 31 = ab (gwX p s 2) := (dep (j := 14) (tt := 31) (by kernel_rfl) ⟨(o9_1_14 (J := J)).1,(o9_1_14 (J := J)).2.1⟩)
   rw [u0,u1]
   exact callIZ hJ (xo 2 (by decide)) (ok rfl)
  | 16,_ =>
   refine aS o9_1_16 ho ?_
   have u0 : f1.r 28 = ay (gwU (gwX p s) 2) := (dep (j := 11) (tt := 28) (by kernel_rfl) ⟨(o9_1_11 (J := J)).1,(o9_1_11 (J := J)).2.1⟩)
   have u1 : f1.r 32 = ay (nmB (gwX p s 2)) := (dep (j := 15) (tt := 32) (by kernel_rfl) ⟨(o9_1_15 (J := J)).1,(o9_1_15 (J := J)).2.1⟩)
   rw [u0,u1]
   exact dw (by have := ul 2; have := nl 2; omega) (ok rfl)
  | 17,_ =>
   refine aS o9_1_17 ho ?_
   have u0 : f1.r 33 = ay (gwU (gwX p s) 2 ++ nmB (gwX p s 2)) := (dep (j := 16) (tt := 33) (by kernel_rfl) ⟨(o9_1_16 (J := J)).1,(o9_1_16 (J := J)).2.1⟩)
   rw [u0]
   exact dw (v := gwL 3) (by have := ul 2; have := nl 2; have := gwL_len 3; simp only [List.length_append]; omega) (ok rfl)
  | 18,_ =>
   refine aS o9_1_18 ho ?_
   rw [out (tt := 7) (by kernel_rfl),r7]
   exact ok rfl
  | 19,_ =>
   refine aS o9_1_19 ho ?_
   rw [out (tt := 2) (by kernel_rfl),r2]
   exact aQ (ok (show ptr b1 (0 + 3) = ptr b1 3 by rw [Nat.zero_add]))
  | 20,_ =>
   refine aS o9_1_20 ho ?_
   have u : f1.r 36 = ptr b1 3 := (dep (j := 19) (tt := 36) (by kernel_rfl) ⟨(o9_1_19 (J := J)).1,(o9_1_19 (J := J)).2.1⟩)
   rw [u]
   exact ldI (v := ab p.wet) c1 rfl rfl (ok rfl)
  | 21,_ =>
   refine aS o9_1_21 ho ?_
   have u0 : f1.r 35 = .func (.func 29) #[] #[] := (dep (j := 18) (tt := 35) (by kernel_rfl) ⟨(o9_1_18 (J := J)).1,(o9_1_18 (J := J)).2.1⟩)
   have u1 : f1.r 37 = ab (gwX p s 3) := (dep (j := 20) (tt := 37) (by kernel_rfl) ⟨(o9_1_20 (J := J)).1,(o9_1_20 (J := J)).2.1⟩)
   rw [u0,u1]
   exact callIZ hJ (xo 3 (by decide)) (ok rfl)
  | 22,_ =>
   refine aS o9_1_22 ho ?_
   have u0 : f1.r 34 = ay (gwU (gwX p s) 3) := (dep (j := 17) (tt := 34) (by kernel_rfl) ⟨(o9_1_17 (J := J)).1,(o9_1_17 (J := J)).2.1⟩)
   have u1 : f1.r 38 = ay (nmB (gwX p s 3)) := (dep (j := 21) (tt := 38) (by kernel_rfl) ⟨(o9_1_21 (J := J)).1,(o9_1_21 (J := J)).2.1⟩)
   rw [u0,u1]
   exact dw (by have := ul 3; have := nl 3; omega) (ok rfl)
  | 23,_ =>
   refine aS o9_1_23 ho ?_
   have u0 : f1.r 39 = ay (gwU (gwX p s) 3 ++ nmB (gwX p s 3)) := (dep (j := 22) (tt := 39) (by kernel_rfl) ⟨(o9_1_22 (J := J)).1,(o9_1_22 (J := J)).2.1⟩)
   rw [u0]
   exact dw (v := gwL 4) (by have := ul 3; have := nl 3; have := gwL_len 4; simp only [List.length_append]; omega) (ok rfl)
  | 24,_ =>
   refine aS o9_1_24 ho ?_
   rw [out (tt := 7) (by kernel_rfl),r7]
   exact ok rfl
  | 25,_ =>
   refine aS o9_1_25 ho ?_
   rw [out (tt := 2) (by kernel_rfl),r2]
   exact aQ (ok (show ptr b1 (0 + 4) = ptr b1 4 by rw [Nat.zero_add]))
  | 26,_ =>
   refine aS o9_1_26 ho ?_
   have u : f1.r 42 = ptr b1 4 := (dep (j := 25) (tt := 42) (by kernel_rfl) ⟨(o9_1_25 (J := J)).1,(o9_1_25 (J := J)).2.1⟩)
   rw [u]
   exact ldI (v := ab p.stubble) c1 rfl rfl (ok rfl)
  | 27,_ =>
   refine aS o9_1_27 ho ?_
   have u0 : f1.r 41 = .func (.func 29) #[] #[] := (dep (j := 24) (tt := 41) (by kernel_rfl) ⟨(o9_1_24 (J := J)).1,(o9_1_24 (J := J)).2.1⟩)
   have u1 : f1.r 43 = ab (gwX p s 4) := (dep (j := 26) (tt := 43) (by kernel_rfl) ⟨(o9_1_26 (J := J)).1,(o9_1_26 (J := J)).2.1⟩)
   rw [u0,u1]
   exact callIZ hJ (xo 4 (by decide)) (ok rfl)
  | 28,_ =>
   refine aS o9_1_28 ho ?_
   have u0 : f1.r 40 = ay (gwU (gwX p s) 4) := (dep (j := 23) (tt := 40) (by kernel_rfl) ⟨(o9_1_23 (J := J)).1,(o9_1_23 (J := J)).2.1⟩)
   have u1 : f1.r 44 = ay (nmB (gwX p s 4)) := (dep (j := 27) (tt := 44) (by kernel_rfl) ⟨(o9_1_27 (J := J)).1,(o9_1_27 (J := J)).2.1⟩)
   rw [u0,u1]
   exact dw (by have := ul 4; have := nl 4; omega) (ok rfl)
  | 29,_ =>
   refine aS o9_1_29 ho ?_
   have u0 : f1.r 45 = ay (gwU (gwX p s) 4 ++ nmB (gwX p s 4)) := (dep (j := 28) (tt := 45) (by kernel_rfl) ⟨(o9_1_28 (J := J)).1,(o9_1_28 (J := J)).2.1⟩)
   rw [u0]
   exact dw (v := gwL 5) (by have := ul 4; have := nl 4; have := gwL_len 5; simp only [List.length_append]; omega) (ok rfl)
  | 30,_ =>
   refine aS o9_1_30 ho ?_
   rw [out (tt := 7) (by kernel_rfl),r7]
   exact ok rfl
  | 31,_ =>
   refine aS o9_1_31 ho ?_
   rw [out (tt := 2) (by kernel_rfl),r2]
   exact aQ (ok (show ptr b1 (0 + 5) = ptr b1 5 by rw [Nat.zero_add]))
  | 32,_ =>
   refine aS o9_1_32 ho ?_
   have u : f1.r 48 = ptr b1 5 := (dep (j := 31) (tt := 48) (by kernel_rfl) ⟨(o9_1_31 (J := J)).1,(o9_1_31 (J := J)).2.1⟩)
   rw [u]
   exact ldI (v := ab p.sleep) c1 rfl rfl (ok rfl)
  | 33,_ =>
   refine aS o9_1_33 ho ?_
   have u0 : f1.r 47 = .func (.func 29) #[] #[] := (dep (j := 30) (tt := 47) (by kernel_rfl) ⟨(o9_1_30 (J := J)).1,(o9_1_30 (J := J)).2.1⟩)
   have u1 : f1.r 49 = ab (gwX p s 5) := (dep (j := 32) (tt := 49) (by kernel_rfl) ⟨(o9_1_32 (J := J)).1,(o9_1_32 (J := J)).2.1⟩)
   rw [u0,u1]
   exact callIZ hJ (xo 5 (by decide)) (ok rfl)
  | 34,_ =>
   refine aS o9_1_34 ho ?_
   have u0 : f1.r 46 = ay (gwU (gwX p s) 5) := (dep (j := 29) (tt := 46) (by kernel_rfl) ⟨(o9_1_29 (J := J)).1,(o9_1_29 (J := J)).2.1⟩)
   have u1 : f1.r 50 = ay (nmB (gwX p s 5)) := (dep (j := 33) (tt := 50) (by kernel_rfl) ⟨(o9_1_33 (J := J)).1,(o9_1_33 (J := J)).2.1⟩)
   rw [u0,u1]
   exact dw (by have := ul 5; have := nl 5; omega) (ok rfl)
  | 35,_ =>
   refine aS o9_1_35 ho ?_
   have u0 : f1.r 51 = ay (gwU (gwX p s) 5 ++ nmB (gwX p s 5)) := (dep (j := 34) (tt := 51) (by kernel_rfl) ⟨(o9_1_34 (J := J)).1,(o9_1_34 (J := J)).2.1⟩)
   rw [u0]
   exact dw (v := gwL 6) (by have := ul 5; have := nl 5; have := gwL_len 6; simp only [List.length_append]; omega) (ok rfl)
  | 36,_ =>
   refine aS o9_1_36 ho ?_
   rw [out (tt := 7) (by kernel_rfl),r7]
   exact ok rfl
  | 37,_ =>
   refine aS o9_1_37 ho ?_
   rw [out (tt := 3) (by kernel_rfl),r3]
   exact aQ (ok (show ptr b3 (0 + 0) = ptr b3 0 by rw [Nat.zero_add]))
  | 38,_ =>
   refine aS o9_1_38 ho ?_
   have u : f1.r 54 = ptr b3 0 := (dep (j := 37) (tt := 54) (by kernel_rfl) ⟨(o9_1_37 (J := J)).1,(o9_1_37 (J := J)).2.1⟩)
   rw [u]
   exact ldI (v := ab s.days) c3 rfl rfl (ok rfl)
  | 39,_ =>
   refine aS o9_1_39 ho ?_
   have u0 : f1.r 53 = .func (.func 29) #[] #[] := (dep (j := 36) (tt := 53) (by kernel_rfl) ⟨(o9_1_36 (J := J)).1,(o9_1_36 (J := J)).2.1⟩)
   have u1 : f1.r 55 = ab (gwX p s 6) := (dep (j := 38) (tt := 55) (by kernel_rfl) ⟨(o9_1_38 (J := J)).1,(o9_1_38 (J := J)).2.1⟩)
   rw [u0,u1]
   exact callIZ hJ (xo 6 (by decide)) (ok rfl)
  | 40,_ =>
   refine aS o9_1_40 ho ?_
   have u0 : f1.r 52 = ay (gwU (gwX p s) 6) := (dep (j := 35) (tt := 52) (by kernel_rfl) ⟨(o9_1_35 (J := J)).1,(o9_1_35 (J := J)).2.1⟩)
   have u1 : f1.r 56 = ay (nmB (gwX p s 6)) := (dep (j := 39) (tt := 56) (by kernel_rfl) ⟨(o9_1_39 (J := J)).1,(o9_1_39 (J := J)).2.1⟩)
   rw [u0,u1]
   exact dw (by have := ul 6; have := nl 6; omega) (ok rfl)
  | 41,_ =>
   refine aS o9_1_41 ho ?_
   have u0 : f1.r 57 = ay (gwU (gwX p s) 6 ++ nmB (gwX p s 6)) := (dep (j := 40) (tt := 57) (by kernel_rfl) ⟨(o9_1_40 (J := J)).1,(o9_1_40 (J := J)).2.1⟩)
   rw [u0]
   exact dw (v := gwL 7) (by have := ul 6; have := nl 6; have := gwL_len 7; simp only [List.length_append]; omega) (ok rfl)
  | 42,_ =>
   refine aS o9_1_42 ho ?_
   rw [out (tt := 7) (by kernel_rfl),r7]
   exact ok rfl
  | 43,_ =>
   refine aS o9_1_43 ho ?_
   rw [out (tt := 3) (by kernel_rfl),r3]
   exact aQ (ok (show ptr b3 (0 + 1) = ptr b3 1 by rw [Nat.zero_add]))
  | 44,_ =>
   refine aS o9_1_44 ho ?_
   have u : f1.r 60 = ptr b3 1 := (dep (j := 43) (tt := 60) (by kernel_rfl) ⟨(o9_1_43 (J := J)).1,(o9_1_43 (J := J)).2.1⟩)
   rw [u]
   exact ldI (v := ab s.drought) c3 rfl rfl (ok rfl)
  | 45,_ =>
   refine aS o9_1_45 ho ?_
   have u0 : f1.r 59 = .func (.func 29) #[] #[] := (dep (j := 42) (tt := 59) (by kernel_rfl) ⟨(o9_1_42 (J := J)).1,(o9_1_42 (J := J)).2.1⟩)
   have u1 : f1.r 61 = ab (gwX p s 7) := (dep (j := 44) (tt := 61) (by kernel_rfl) ⟨(o9_1_44 (J := J)).1,(o9_1_44 (J := J)).2.1⟩)
   rw [u0,u1]
   exact callIZ hJ (xo 7 (by decide)) (ok rfl)
  | 46,_ =>
   refine aS o9_1_46 ho ?_
   have u0 : f1.r 58 = ay (gwU (gwX p s) 7) := (dep (j := 41) (tt := 58) (by kernel_rfl) ⟨(o9_1_41 (J := J)).1,(o9_1_41 (J := J)).2.1⟩)
   have u1 : f1.r 62 = ay (nmB (gwX p s 7)) := (dep (j := 45) (tt := 62) (by kernel_rfl) ⟨(o9_1_45 (J := J)).1,(o9_1_45 (J := J)).2.1⟩)
   rw [u0,u1]
   exact dw (by have := ul 7; have := nl 7; omega) (ok rfl)
  | 47,_ =>
   refine aS o9_1_47 ho ?_
   have u0 : f1.r 63 = ay (gwU (gwX p s) 7 ++ nmB (gwX p s 7)) := (dep (j := 46) (tt := 63) (by kernel_rfl) ⟨(o9_1_46 (J := J)).1,(o9_1_46 (J := J)).2.1⟩)
   rw [u0]
   exact dw (v := gwL 8) (by have := ul 7; have := nl 7; have := gwL_len 8; simp only [List.length_append]; omega) (ok rfl)
  | 48,_ =>
   refine aS o9_1_48 ho ?_
   rw [out (tt := 7) (by kernel_rfl),r7]
   exact ok rfl
  | 49,_ =>
   refine aS o9_1_49 ho ?_
   rw [out (tt := 3) (by kernel_rfl),r3]
   exact aQ (ok (show ptr b3 (0 + 2) = ptr b3 2 by rw [Nat.zero_add]))
  | 50,_ =>
   refine aS o9_1_50 ho ?_
   have u : f1.r 66 = ptr b3 2 := (dep (j := 49) (tt := 66) (by kernel_rfl) ⟨(o9_1_49 (J := J)).1,(o9_1_49 (J := J)).2.1⟩)
   rw [u]
   exact ldI (v := ab s.flood) c3 rfl rfl (ok rfl)
  | 51,_ =>
   refine aS o9_1_51 ho ?_
   have u0 : f1.r 65 = .func (.func 29) #[] #[] := (dep (j := 48) (tt := 65) (by kernel_rfl) ⟨(o9_1_48 (J := J)).1,(o9_1_48 (J := J)).2.1⟩)
   have u1 : f1.r 67 = ab (gwX p s 8) := (dep (j := 50) (tt := 67) (by kernel_rfl) ⟨(o9_1_50 (J := J)).1,(o9_1_50 (J := J)).2.1⟩)
   rw [u0,u1]
   exact callIZ hJ (xo 8 (by decide)) (ok rfl)
  | 52,_ =>
   refine aS o9_1_52 ho ?_
   have u0 : f1.r 64 = ay (gwU (gwX p s) 8) := (dep (j := 47) (tt := 64) (by kernel_rfl) ⟨(o9_1_47 (J := J)).1,(o9_1_47 (J := J)).2.1⟩)
   have u1 : f1.r 68 = ay (nmB (gwX p s 8)) := (dep (j := 51) (tt := 68) (by kernel_rfl) ⟨(o9_1_51 (J := J)).1,(o9_1_51 (J := J)).2.1⟩)
   rw [u0,u1]
   exact dw (by have := ul 8; have := nl 8; omega) (ok rfl)
  | 53,_ =>
   refine aS o9_1_53 ho ?_
   have u0 : f1.r 69 = ay (gwU (gwX p s) 8 ++ nmB (gwX p s 8)) := (dep (j := 52) (tt := 69) (by kernel_rfl) ⟨(o9_1_52 (J := J)).1,(o9_1_52 (J := J)).2.1⟩)
   rw [u0]
   exact dw (v := gwL 9) (by have := ul 8; have := nl 8; have := gwL_len 9; simp only [List.length_append]; omega) (ok rfl)
  | 54,_ =>
   refine aS o9_1_54 ho ?_
   have u : f1.r 70 = ay (gwU (gwX p s) 9) := (dep (j := 53) (tt := 70) (by kernel_rfl) ⟨(o9_1_53 (J := J)).1,(o9_1_53 (J := J)).2.1⟩)
   rw [u]
   exact ok rfl
  | 55,_ =>
   refine aS o9_1_55 ho ?_
   exact ok rfl
 ·intro d f1 h1 hB ds _ hin
  subst hB
  refine hS f1 ds ?_ (hin 55 _ 5 (o9_1_55 (J := J)).1 (o9_1_55 (J := J)).2.1)
  rw [← gwU_text]
  exact hin 54 _ 4 (o9_1_54 (J := J)).1 (o9_1_54 (J := J)).2.1
theorem good9 (hJ : Closed prog main J) (k1 : ∀ H',cQ (bR p) (cd s) ≠ 0 → ag [] H H' → K (.tuple ⟨[ay [],ab (cQ (bR p) (cd s))]⟩) H') (k2 : ∀ H',cQ (bR p) (cd s) = 0 → ag [] H H' → K (.tuple ⟨[ay (textP p s),ab 0]⟩) H') : Good prog J 9 [.agg ⟨p.cells⟩,.agg ⟨s.cells⟩] H K := by
 refine good_of_sem hJ at9 body9 (by kernel_rfl) (Nat.le_of_ble_eq_true rfl) fun ok => ?_
 refine trunc_sound hJ mixed 3 (codeOf f9) (by kernel_rfl) ?_
 refine (e9 (J := J) (Sx := fun f h => Sem J 71 H.length 9 (aw (List.replicate 3 1) (codeOf f9)) f h (aq prog [.tmp 4,.tmp 5] H.length K))).mpr ?_
 refine dk (l := p.cells) rfl fun H1 p4 e1 S1 c4 l1 => dk (l := s.cells) rfl fun H2 p5 e2 S2 c5 l2 => ?_
 have c42 := S2.get c4 (by simp)
 have T2 := S1.trans S2
 have b4 := ah c42
 have b5 := ah c5
 have sb : ∀ {H'},ag [] H2 H' → aG (some [p4,p5]) H2 H' := fun S x hx => by
  simp only [List.mem_cons,List.not_mem_nil,or_false] at hx
  rcases hx with rfl | rfl
  ·exact S.2 _ b4 (by simp)
  ·exact S.2 _ b5 (by simp)
 refine ⟨[p4,p5],ar (c := p.cells) c42 (by simp [Pas.cells]) rfl rfl ⟨by simp [aR,au],ar (c := s.cells) c5 (by simp [aU.cells]) rfl rfl ⟨by simp [aR,au],?_⟩⟩⟩
 refine good27 hJ ⟨sb ag.refl,good28 hJ ⟨sb ag.refl,by decide,?_⟩⟩
 refine aK (l := [ab (bR p)]) rfl rfl rfl (Nat.le_of_ble_eq_true rfl) (aK (l := [ab (cd s)]) rfl rfl rfl (Nat.le_of_ble_eq_true rfl) (bu (du fun H3 p6 e6 S3 c6 l6 => ⟨sb S3,?_⟩)))
 have c6 : H3[p6]? = some (.cells [ab (bR p),ab (cd s)] true 0) := c6
 have T3 := T2.trans S3
 refine good26 hJ (sli_new (n := 2) (c := 2) c6 rfl rfl) ⟨sb S3,neqI (ba (fun he => ?_) fun he => ?_)⟩
 ·exact ao (by simp [unk]) (k1 H3 he T3)
 ·have h0 : cQ (bR p) (cd s) = 0 := Decidable.not_not.1 he
  obtain ⟨hp,hs⟩ := fst2Zok h0
  have e : aw (List.replicate 3 1) (codeOf f9) = .seq (aw [1,1,1,0] (codeOf f9)) (aw [1,1,1,1] (codeOf f9)) := by kernel_rfl
  rw [e]
  refine Sem_seq hJ (regionW hJ hp hs (b1 := p4) (b3 := p5) rfl rfl rfl (S3.get c42 (by simp)) (S3.get c5 (by simp)) fun f' ds r4 r5 => ?_)
  refine bH hJ mixed _ ?_
  have e2 := s9t_1 (J := J) (n0 := H.length) (K := K) (f := f') (h := H3)
  refine e2.mpr ?_
  rw [ds,r4,r5]
  exact ao (by simp [unk,ay]) (k2 H3 h0 T3)
end
end Go.Proofs.YtlhanfcgdfjhjaaGreatDoor
namespace Go.Proofs.YtlhanfcgdfjhjaaGreatDoor
open Go.Conc Go.Proofs.Tryz
set_option maxRecDepth 100000
set_option maxHeartbeats 4000000
set_option linter.unusedVariables false
section
variable {main : Bool} {J : JT} {n0 : Nat} {h : List af} {K : Value → List af → Prop}
theorem at7 : prog.funcs[7]? = some f7 := by kernel_rfl
theorem body7 : f7.body = some (codeOf f7) := by kernel_rfl
def pl7 : bj := [(2,false,.take 0 (.take 1 (.take 2 (.take 3 (.take 4 (.take 5 (.take 7 (.take 8 (.take 9 (.take 10 (.take 11 (.take 12 (.last 6 true (.last 13 true (.last 14 true (.last 15 true (.take 16 (.last 17 false (.fin))))))))))))))))))),
 (4,false,.take 0 (.take 1 (.take 2 (.take 3 (.take 4 (.take 6 (.take 7 (.take 8 (.last 5 true (.last 9 true (.last 10 true (.last 11 true (.take 12 (.last 13 false (.fin)))))))))))))))]
def ct7 : bB := .go
theorem pok7 : aC prog pl7 (codeOf f7) = true := by kernel_rfl
theorem e7 {a0 : Value} : W prog J 55 h.length 7 (codeOf f7) (RG.mk (ax [a0]) []) h (aq prog [.cell 2 23] h.length K) =
(bo [(ab 0),(ab 0),(ab 0),(ab 0),(ab 0),(ab 0)] h fun v1 h2 =>
Good prog J 23 [a0,(ab 3),(ab 30)] h2 fun v3 h4 =>
(((3 * 1 : Nat) ≤ 16777216 ∧ (3 : Nat) ≤ 16777216 ∧ List.length [(ab 0)] = 1) ∧ aH (aV [(ab 0)] 3) [(0,1,(ab 1)),(1,1,(ab 1)),(2,1,(ab 2))] fun c5 =>
aX 3 c5 h4 fun v6 h7 =>
Good prog J 24 [a0,(ab 0),v6] h7 fun v8 h9 =>
Good prog J 25 [a0,(ab 5)] h9 fun v10 h11 =>
(((3 * 1 : Nat) ≤ 16777216 ∧ (3 : Nat) ≤ 16777216 ∧ List.length [(ab 0)] = 1) ∧ aH (aV [(ab 0)] 3) [(0,1,(ab 1)),(1,1,(ab 2)),(2,1,v10)] fun c12 =>
aX 3 c12 h11 fun v13 h14 =>
Good prog J 24 [a0,(ab 0),v13] h14 fun v15 h16 =>
aH [(ab 0),(ab 0),(ab 0),(ab 0),(ab 0),(ab 0)] [(1,1,v3),(2,1,v8),(5,1,v15)] fun c17 =>
bo [(ab 0),(ab 0),(ab 0),(ab 0),(ab 0),(ab 0)] h16 fun v18 h19 =>
aB 6 v18 (Value.agg ⟨c17⟩) h19 fun h20 =>
(∃ B,aL v18 1 fun v21 =>
ai false 1 v21 h20 fun v22 =>
aR (some B) (au v21) ∧ (aL v18 1 fun v23 =>
ai false 1 v23 h20 fun v24 =>
aR (some B) (au v23) ∧ (aL v18 1 fun v25 =>
ai false 1 v25 h20 fun v26 =>
aR (some B) (au v25) ∧ (aj prog .quo 3 v26 (ab 2) fun v27 =>
aL v18 1 fun v28 =>
ai false 1 v28 h20 fun v29 =>
aR (some B) (au v28) ∧ (Good prog J 25 [a0,v24] h20 fun v30 h31 =>
aG (some B) h20 h31 ∧ (Good prog J 23 [a0,v27,v29] h31 fun v32 h33 =>
aG (some B) h20 h33 ∧ ((((2 * 1 : Nat) ≤ 16777216 ∧ (2 : Nat) ≤ 16777216 ∧ List.length [(ab 0)] = 1) ∧ aH (aV [(ab 0)] 2) [(0,1,v30),(1,1,v32)] fun c34 =>
aX 2 c34 h33 fun v35 h36 =>
aG (some B) h20 h36 ∧ (Good prog J 24 [a0,v22,v35] h36 fun v37 h38 =>
aG (some B) h20 h38 ∧ (aL v18 0 fun v39 =>
aB 1 v39 v37 h38 fun h40 =>
aL v18 2 fun v41 =>
ai false 1 v41 h40 fun v42 =>
aL v18 2 fun v43 =>
ai false 1 v43 h40 fun v44 =>
aj prog .add 3 v44 (ab 5) fun v45 =>
aMin (ab 9) [v45] fun v46 =>
Good prog J 23 [a0,v42,v46] h40 fun v47 h48 =>
aL v18 3 fun v49 =>
aB 1 v49 v47 h48 fun h50 =>
(∃ B,aL v18 1 fun v51 =>
ai false 1 v51 h50 fun v52 =>
aR (some B) (au v51) ∧ (aj prog .quo 3 v52 (ab 2) fun v53 =>
aL v18 1 fun v54 =>
ai false 1 v54 h50 fun v55 =>
aR (some B) (au v54) ∧ (Good prog J 25 [a0,v53] h50 fun v56 h57 =>
aG (some B) h50 h57 ∧ (Good prog J 25 [a0,v55] h57 fun v58 h59 =>
aG (some B) h50 h59 ∧ ((((4 * 1 : Nat) ≤ 16777216 ∧ (4 : Nat) ≤ 16777216 ∧ List.length [(ab 0)] = 1) ∧ aH (aV [(ab 0)] 4) [(0,1,(ab 1)),(1,1,(ab 2)),(2,1,v56),(3,1,v58)] fun c60 =>
aX 4 c60 h59 fun v61 h62 =>
aG (some B) h50 h62 ∧ (Good prog J 24 [a0,(ab 0),v61] h62 fun v63 h64 =>
aG (some B) h50 h64 ∧ (aL v18 4 fun v65 =>
aB 1 v65 v63 h64 fun h66 =>
ai true 6 v18 h66 fun v67 =>
aB 6 v1 v67 h66 fun h68 =>
aq prog [.cell 2 23] h.length K .ret ((((((((((((((((((((((((((((((((((((((((((((((((((((((RG.mk (ax [a0]) []).p 2 v1).p 4 a0).p 5 v3).p 6 a0).p 7 v6).p 8 v8).p 9 a0).p 10 a0).p 11 v10).p 12 v13).p 13 v15).p 14 (Value.agg ⟨c17⟩)).p 3 v18).p 15 a0).p 16 v21).p 17 v22).p 18 a0).p 19 v23).p 20 v24).p 22 a0).p 23 v25).p 24 v26).p 25 v27).p 26 v28).p 27 v29).p 21 v30).p 28 v32).p 29 v35).p 30 v37).p 31 v39).p 32 a0).p 33 v41).p 34 v42).p 35 v43).p 36 v44).p 37 v45).p 38 v46).p 39 v47).p 40 v49).p 41 a0).p 42 a0).p 43 v51).p 44 v52).p 45 v53).p 47 a0).p 48 v54).p 49 v55).p 46 v56).p 50 v58).p 51 v61).p 52 v63).p 53 v65).p 54 v67) h68))))))))))))))))))))) := aT pok7 ct7 (by kernel_rfl)
theorem g7 (hJ : Closed prog main J) {a0 : Value} (hs : aD h → W prog J 55 h.length 7 (codeOf f7) (RG.mk (ax [a0]) []) h (aq prog [.cell 2 23] h.length K)) : Good prog J 7 [a0] h K :=
 az hJ mixed at7 body7 (by kernel_rfl) (Nat.le_of_ble_eq_true rfl) hs
theorem at8 : prog.funcs[8]? = some f8 := by kernel_rfl
theorem body8 : f8.body = some (codeOf f8) := by kernel_rfl
def pl8 : bj := [(2,false,.take 0 (.take 1 (.take 2 (.take 4 (.take 5 (.take 6 (.last 3 true (.take 8 (.last 7 true (.last 9 false (.take 10 (.last 11 false (.fin)))))))))))))]
def ct8 : bB := .go
theorem pok8 : aC prog pl8 (codeOf f8) = true := by kernel_rfl
theorem e8 {a0 a1 : Value} : W prog J 21 h.length 8 (codeOf f8) (RG.mk (ax [a0,a1]) []) h (aq prog [.cell 4 25] h.length K) =
(bo [(ab 0),(ab 0),(ab 0)] h fun v1 h2 =>
Good prog J 23 [a0,(ab 1),a1] h2 fun v3 h4 =>
aH [(ab 0),(ab 0),(ab 0)] [(0,1,v3)] fun c5 =>
bo [(ab 0),(ab 0),(ab 0)] h4 fun v6 h7 =>
aB 3 v6 (Value.agg ⟨c5⟩) h7 fun h8 =>
(∃ B,aL v6 0 fun v9 =>
ai false 1 v9 h8 fun v10 =>
aR (some B) (au v9) ∧ (aL v6 0 fun v11 =>
ai false 1 v11 h8 fun v12 =>
aR (some B) (au v11) ∧ (Good prog J 23 [a0,(ab 1),v10] h8 fun v13 h14 =>
aG (some B) h8 h14 ∧ (aL v6 1 fun v15 =>
Good prog J 23 [a0,(ab 1),v12] h14 fun v16 h17 =>
aG (some B) h8 h17 ∧ (aB 1 v15 v13 h17 fun h18 =>
aL v6 2 fun v19 =>
aB 1 v19 v16 h18 fun h20 =>
ai true 3 v6 h20 fun v21 =>
aB 3 v1 v21 h20 fun h22 =>
aq prog [.cell 4 25] h.length K .ret ((((((((((((((((((RG.mk (ax [a0,a1]) []).p 4 v1).p 6 a0).p 7 a1).p 8 v3).p 9 (Value.agg ⟨c5⟩)).p 5 v6).p 10 a0).p 11 v9).p 12 v10).p 14 a0).p 15 v11).p 16 v12).p 13 v13).p 18 v15).p 17 v16).p 19 v19).p 20 v21) h22)))))) := aT pok8 ct8 (by kernel_rfl)
theorem g8 (hJ : Closed prog main J) {a0 a1 : Value} (hs : aD h → W prog J 21 h.length 8 (codeOf f8) (RG.mk (ax [a0,a1]) []) h (aq prog [.cell 4 25] h.length K)) : Good prog J 8 [a0,a1] h K :=
 az hJ mixed at8 body8 (by kernel_rfl) (Nat.le_of_ble_eq_true rfl) hs
end
end Go.Proofs.YtlhanfcgdfjhjaaGreatDoor
namespace Go.Proofs.YtlhanfcgdfjhjaaGreatDoor
open Go.Conc Go.Proofs.Tryz
set_option maxRecDepth 100000
section
variable {main : Bool} {J : JT} {h H : List af} {K : Value → List af → Prop} {KV : Value → Prop} {HL : List af → Prop} {n0 : Nat} {ns : List Int} {k : Nat}
theorem quoZ {t : TypeId} {a b : Int} (ha : 0 ≤ a ∧ a ≤ 1000000) (hb : 0 < b) (hk : KV (ab (a / b))) : aj prog .quo t (ab a) (ab b) KV := by
 have h1 : Int.tdiv a b = a / b := Int.tdiv_eq_ediv_of_nonneg ha.1
 have h2 : 0 ≤ a / b := Int.ediv_nonneg ha.1 (by omega)
 have h3 : a / b ≤ a := Int.ediv_le_self _ ha.1
 simp only [aj,aInt,true_and]
 rw [h1,wrap64 (by omega) (by omega)]
 exact ⟨by omega,hk⟩
theorem hxLt (a : HX h H ns k) : h.length < H.length := by
 obtain ⟨nv,k1,s,rest,rfl,_⟩ := a
 rw [hf_len]
 omega
theorem ofZ (hJ : Closed prog main J) (a : HX h H ns k) (hk : k < 1000000) {x : Int} {others : List Int} {p n c : Nat} (hp : H[p]? = some (.cells (others.map ab) true 0)) (hne : p ≠ h.length) (hn : others.length = n) (hl : n < 1000)
  (hK : ∀ y H',(y = x ∨ y ∈ others) → ag [h.length] H H' → H'.length = H.length → HX h H' ns (k + 1) → K (ab y) H') : Good prog J 24 [ptr h.length 0,ab x,.slice (some ⟨p,0,none⟩) n c] H K := by
 subst hn
 obtain ⟨nv,k1,s,rest,rfl,b1,b2,b3⟩ := a
 refine good24 hJ (hf_hand b3.list b3.sane (by omega) b2.1 b2.2) (others := others) (fun h' hd => ?_) (by omega) fun y h1 hy hd => ?_
 ·obtain ⟨k',s',c1,c2,c3,rfl⟩ := hf_dealt hd
  have S := hf_same (h := h) (nv := nv) (k1 := k1) (k2 := k') (s1 := s) (s2 := s') (rest := rest) (g := [])
  rw [List.append_nil] at S
  exact sli_new (wr := true) (sz := 0) (S.get hp (by simpa using hne)) (by simp) (kn_ints _)
 ·obtain ⟨k',s',c1,c2,c3,rfl⟩ := hf_dealt hd
  have S := hf_same (h := h) (nv := nv) (k1 := k1) (k2 := k') (s1 := s) (s2 := s') (rest := rest) (g := [])
  rw [List.append_nil] at S
  exact hK y _ hy S (by simp [hf_len]) ⟨nv,k',s',rest,rfl,by omega,⟨c2,c3⟩,b3⟩
theorem good8 (hJ : Closed prog main J) (a : HX h H ns k) (hk : k < 400000) {D : Int} (hD : 1 ≤ D ∧ D ≤ 8)
  (hK : ∀ s H',cL s → s.days ≤ D → ag [h.length] H H' → HX h H' ns (k + 3) → K (.agg ⟨s.cells⟩) H') : Good prog J 8 [ptr h.length 0,ab D] H K := by
 refine g8 hJ fun ok => ?_
 rw [e8]
 have hlt := hxLt a
 refine qAl fun H1 p1 e1 S1 c1 l1 => ?_
 have a1 := a.same S1 (by simp)
 refine amX hJ a1 (by omega) (by omega) (by omega) fun d H2 b1 b2 S2 l2 a2 => ?_
 refine aK (l := [ab d]) rfl rfl rfl (Nat.le_of_ble_eq_true rfl) (bu ?_)
 refine qAl fun H3 p3 e3 S3 c3 l3 => da (c := [ab d,ab 0,ab 0]) c3 rfl rfl rfl fun H4 S4 c4 l4 => ?_
 have a4 := (a2.same S3 (by simp)).same S4 (by simp; omega)
 have hp4 : p3 < H4.length := ah c4
 refine ⟨[p3],aQ (ldI (v := ab d) c4 rfl rfl ⟨by simp [aR,au],aQ (ldI (v := ab d) c4 rfl rfl ⟨by simp [aR,au],?_⟩)⟩)⟩
 refine amX hJ a4 (by omega) (by omega) (by omega) fun u H5 d1 d2 S5 l5 a5 => ⟨sbOne S5 hp4 (by simp; omega),aQ ?_⟩
 refine amX hJ a5 (by omega) (by omega) (by omega) fun w H6 f1 f2 S6 l6 a6 => ⟨sbOne (S5.trans S6) hp4 (by simp; omega),?_⟩
 have T6 : ag [h.length] H4 H6 := S5.trans S6
 refine qSt (T6.get c4 (by simp; omega)) (by simp) rfl rfl fun H7 S7 c7 l7 => aQ (qSt c7 (by simp) rfl rfl fun H8 S8 c8 l8 => ?_)
 refine ar (c := (⟨d,u,w⟩ : aU).cells) c8 (by simp) rfl rfl ?_
 have T4 : ag [h.length] H H4 := (((S1.bN).trans S2).trans S3.bN).bq S4 (by simp; omega)
 have T8 : ag [h.length] H H8 := ((T4.trans T6).bq S7 (by simp; omega)).bq S8 (by simp; omega)
 have c1' := S8.get (S7.get (T6.get (S4.get (S3.get (S2.get c1 (by simp; omega)) (by simp)) (by simp; omega)) (by simp; omega)) (by simp; omega)) (by simp; omega)
 refine da (c := (⟨d,u,w⟩ : aU).cells) c1' rfl rfl rfl fun H9 S9 c9 l9 => ?_
 refine retQs rfl (de (gg := true) (s := 3) (by kernel_rfl) (ar (c := (⟨d,u,w⟩ : aU).cells) c9 (by simp [aU.cells]) rfl rfl (dN ?_)))
 refine hK ⟨d,u,w⟩ H9 ⟨by show 1 ≤ d ∧ d ≤ 8; omega,by show 1 ≤ u ∧ u ≤ d; omega,by show 1 ≤ w ∧ w ≤ d; omega⟩ (by show d ≤ D; omega) (T8.bq S9 (by simp; omega)) (((a6.same S7 (by simp; omega)).same S8 (by simp; omega)).same S9 (by simp; omega))
set_option maxHeartbeats 800000 in
theorem good7 (hJ : Closed prog main J) (a : HX h H ns k) (hk : k < 400000)
  (hK : ∀ p H',cA p → 3 ≤ p.bears ∧ p.bears ≤ 30 → ag [h.length] H H' → HX h H' ns (k + 12) → K (.agg ⟨p.cells⟩) H') : Good prog J 7 [ptr h.length 0] H K := by
 refine g7 hJ fun ok => ?_
 rw [e7]
 have hlt := hxLt a
 refine qAl fun H1 p1 e1 S1 c1 l1 => ?_
 have a1 := a.same S1 (by simp)
 refine amX hJ a1 (by omega) (by omega) (by omega) fun b H2 b1 b2 S2 l2 a2 => ?_
 refine ⟨by decide,aK (l := [ab 1]) rfl rfl rfl (Nat.le_of_ble_eq_true rfl) (aK (l := [ab 1]) rfl rfl rfl (Nat.le_of_ble_eq_true rfl) (aK (l := [ab 2]) rfl rfl rfl (Nat.le_of_ble_eq_true rfl) (bu (du fun H3 p3 e3 S3 c3 l3 => ?_))))⟩
 have c3 : H3[p3]? = some (.cells (([1,1,2] : List Int).map ab) true 0) := c3
 refine ofZ hJ (a2.same S3 (by simp)) (by omega) c3 (by omega) rfl (by simp) fun dr H4 m4 S4 l4 a4 => ?_
 refine upX hJ a4 (by omega) (by omega) fun u5 H5 d1 d2 S5 l5 a5 => ?_
 refine ⟨by decide,aK (l := [ab 1]) rfl rfl rfl (Nat.le_of_ble_eq_true rfl) (aK (l := [ab 2]) rfl rfl rfl (Nat.le_of_ble_eq_true rfl) (aK (l := [ab u5]) rfl rfl rfl (Nat.le_of_ble_eq_true rfl) (bu (du fun H6 p6 e6 S6 c6 l6 => ?_))))⟩
 have c6 : H6[p6]? = some (.cells (([1,2,u5] : List Int).map ab) true 0) := c6
 refine ofZ hJ (a5.same S6 (by simp)) (by omega) c6 (by omega) rfl (by simp) fun sl H7 m7 S7 l7 a7 => ?_
 refine aK (l := [ab b]) rfl rfl rfl (Nat.le_of_ble_eq_true rfl) (aK (l := [ab dr]) rfl rfl rfl (Nat.le_of_ble_eq_true rfl) (aK (l := [ab sl]) rfl rfl rfl (Nat.le_of_ble_eq_true rfl) (bu ?_)))
 refine qAl fun H8 p8 e8 S8 c8 l8 => da (c := [ab 0,ab b,ab dr,ab 0,ab 0,ab sl]) c8 rfl rfl rfl fun H9 S9 c9 l9 => ?_
 have a9 := (a7.same S8 (by simp)).same S9 (by simp; omega)
 have hp9 : p8 < H9.length := ah c9
 have hdr : 0 ≤ dr ∧ dr ≤ 2 := by
  rcases m4 with h | h
  ·omega
  ·simp only [List.mem_cons,List.not_mem_nil,or_false] at h
   omega
 have hsl : 0 ≤ sl ∧ sl ≤ 5 := by
  rcases m7 with h | h
  ·omega
  ·simp only [List.mem_cons,List.not_mem_nil,or_false] at h
   omega
 refine ⟨[p8],aQ (ldI (v := ab b) c9 rfl rfl ⟨by simp [aR,au],aQ (ldI (v := ab b) c9 rfl rfl ⟨by simp [aR,au],aQ (ldI (v := ab b) c9 rfl rfl ⟨by simp [aR,au],quoZ (by omega) (by decide) (aQ (ldI (v := ab b) c9 rfl rfl ⟨by simp [aR,au],?_⟩))⟩)⟩)⟩)⟩
 have T9 : ∀ {H'},ag [h.length] H9 H' → aG (some [p8]) H9 H' := fun S => sbOne S hp9 (by simp; omega)
 refine upX hJ a9 (by omega) (by omega) fun u10 H10 f1 f2 S10 l10 a10 => ⟨T9 S10,?_⟩
 refine amX hJ a10 (by omega) (by omega) (by omega) fun u11 H11 g1 g2 S11 l11 a11 => ⟨T9 (S10.trans S11),?_⟩
 have Q11 : ag [h.length] H9 H11 := S10.trans S11
 refine ⟨by decide,aK (l := [ab u10]) rfl rfl rfl (Nat.le_of_ble_eq_true rfl) (aK (l := [ab u11]) rfl rfl rfl (Nat.le_of_ble_eq_true rfl) (bu (du fun H12 p12 e12 S12 c12 l12 => ⟨T9 (Q11.trans S12.bN),?_⟩)))⟩
 have c12 : H12[p12]? = some (.cells (([u10,u11] : List Int).map ab) true 0) := c12
 have hl11 := hxLt a11
 refine ofZ hJ (a11.same S12 (by simp)) (by omega) c12 (by omega) rfl (by simp) fun gr H13 m13 S13 l13 a13 => ?_
 have Q13 : ag [h.length] H9 H13 := (Q11.trans S12.bN).trans S13
 refine ⟨T9 Q13,aQ ?_⟩
 have hgr : 0 ≤ gr ∧ gr ≤ b := by
  rcases m13 with h | h
  ·omega
  ·simp only [List.mem_cons,List.not_mem_nil,or_false] at h
   omega
 refine qSt (Q13.get c9 (by simp; omega)) (by simp) rfl rfl fun H14 S14 c14 l14 => ?_
 have c14 : H14[p8]? = some (.cells [ab gr,ab b,ab dr,ab 0,ab 0,ab sl] true 0) := c14
 have a14 := a13.same S14 (by simp; omega)
 refine aQ (ldI (v := ab dr) c14 rfl rfl (aQ (ldI (v := ab dr) c14 rfl rfl (ck (by omega) (minI ?_)))))
 refine amX hJ a14 (by omega) (by omega) (by omega) fun wt H15 h1 h2 S15 l15 a15 => aQ ?_
 refine qSt (S15.get c14 (by simp; omega)) (by simp) rfl rfl fun H16 S16 c16 l16 => ?_
 have c16 : H16[p8]? = some (.cells [ab gr,ab b,ab dr,ab wt,ab 0,ab sl] true 0) := c16
 have a16 := a15.same S16 (by simp; omega)
 have hp16 : p8 < H16.length := ah c16
 have T16 : ∀ {H'},ag [h.length] H16 H' → aG (some [p8]) H16 H' := fun S => sbOne S hp16 (by simp; omega)
 refine ⟨[p8],aQ (ldI (v := ab b) c16 rfl rfl ⟨by simp [aR,au],quoZ (by omega) (by decide) (aQ (ldI (v := ab b) c16 rfl rfl ⟨by simp [aR,au],?_⟩))⟩)⟩
 refine upX hJ a16 (by omega) (by omega) fun u17 H17 q1 q2 S17 l17 a17 => ⟨T16 S17,?_⟩
 refine upX hJ a17 (by omega) (by omega) fun u18 H18 q3 q4 S18 l18 a18 => ⟨T16 (S17.trans S18),?_⟩
 have Q18 : ag [h.length] H16 H18 := S17.trans S18
 refine ⟨by decide,aK (l := [ab 1]) rfl rfl rfl (Nat.le_of_ble_eq_true rfl) (aK (l := [ab 2]) rfl rfl rfl (Nat.le_of_ble_eq_true rfl) (aK (l := [ab u17]) rfl rfl rfl (Nat.le_of_ble_eq_true rfl) (aK (l := [ab u18]) rfl rfl rfl (Nat.le_of_ble_eq_true rfl) (bu (du fun H19 p19 e19 S19 c19 l19 => ⟨T16 (Q18.trans S19.bN),?_⟩)))))⟩
 have c19 : H19[p19]? = some (.cells (([1,2,u17,u18] : List Int).map ab) true 0) := c19
 have hl18 := hxLt a18
 refine ofZ hJ (a18.same S19 (by simp)) (by omega) c19 (by omega) rfl (by simp) fun st H20 m20 S20 l20 a20 => ?_
 have Q20 : ag [h.length] H16 H20 := (Q18.trans S19.bN).trans S20
 have hst : 0 ≤ st ∧ st ≤ b := by
  rcases m20 with h | h
  ·omega
  ·simp only [List.mem_cons,List.not_mem_nil,or_false] at h
   omega
 refine ⟨T16 Q20,aQ (qSt (Q20.get c16 (by simp; omega)) (by simp) rfl rfl fun H21 S21 c21 l21 => ?_)⟩
 have c21 : H21[p8]? = some (.cells (⟨gr,b,dr,wt,st,sl⟩ : Pas).cells true 0) := c21
 refine ar (c := (⟨gr,b,dr,wt,st,sl⟩ : Pas).cells) c21 (by simp [Pas.cells]) rfl rfl ?_
 have U7 : ag [h.length] H H7 := ((((((S1.bN).trans S2).trans S3.bN).trans S4).trans S5).trans S6.bN).trans S7
 have U9 : ag [h.length] H H9 := (U7.trans S8.bN).bq S9 (by have := U7.1; simp; omega)
 have U21 : ag [h.length] H H21 := ((((U9.trans Q13).bq S14 (by have := U7.1; simp; omega)).trans S15).bq S16 (by have := U7.1; simp; omega)).trans Q20 |>.bq S21 (by have := U7.1; simp; omega)
 have V1 : ag [h.length] H1 H7 := ((((S2.trans S3.bN).trans S4).trans S5).trans S6.bN).trans S7
 have hv1 := V1.1
 have V9 : ag [h.length,p8] H1 H9 := ((V1.trans S8.bN).weak (by simp)).trans (S9.weak (by simp))
 have V21 : ag [h.length,p8] H1 H21 := (((((V9.trans (Q13.weak (by simp))).trans (S14.weak (by simp))).trans (S15.weak (by simp))).trans (S16.weak (by simp))).trans (Q20.weak (by simp))).trans (S21.weak (by simp))
 have c1' := V21.get c1 (by simp; omega)
 refine da (c := (⟨gr,b,dr,wt,st,sl⟩ : Pas).cells) c1' rfl rfl rfl fun H22 S22 c22 l22 => ?_
 refine retQs rfl (de (gg := true) (s := 6) (by kernel_rfl) (ar (c := (⟨gr,b,dr,wt,st,sl⟩ : Pas).cells) c22 (by simp [Pas.cells]) rfl rfl (dN ?_)))
 refine hK ⟨gr,b,dr,wt,st,sl⟩ H22 ⟨by show 1 ≤ b ∧ b ≤ 99; omega,hgr,by show 0 ≤ dr ∧ dr ≤ 9; omega,by show dr ≤ wt ∧ wt ≤ 9; omega,hst,hsl⟩ (by show 3 ≤ b ∧ b ≤ 30; omega) (U21.bq S22 (by simp; omega)) ?_
 have z21 := a20.same S21 (by simp; omega)
 have z22 := z21.same S22 (by simp; omega)
 exact z22.mono (by omega)
end
end Go.Proofs.YtlhanfcgdfjhjaaGreatDoor
namespace Go.Proofs.YtlhanfcgdfjhjaaGreatDoor
open Go.Conc Go.Proofs.Tryz
set_option maxRecDepth 100000
set_option maxHeartbeats 4000000
set_option linter.unusedVariables false
section
variable {main : Bool} {J : JT} {n0 : Nat} {h : List af} {K : Value → List af → Prop}
def pl4 : bj := []
end
end Go.Proofs.YtlhanfcgdfjhjaaGreatDoor
namespace Go.Proofs.YtlhanfcgdfjhjaaGreatDoor
open Go.Conc Go.Proofs.Tryz
set_option maxRecDepth 100000
section
variable {W0 : World} {Post : Value → World → Prop} {h H : List af} {K : Value → List af → Prop} {KV : Value → Prop} {F : RG} {n0 : Nat}
theorem teqPZ (p : Pas) : teq prog 10000 23 (.agg ⟨p.cells⟩) (.agg ⟨p.cells⟩) = some true := by
 have e : ∀ a b c d e f : Int,teq prog 10000 23 (.agg ⟨[ab a,ab b,ab c,ab d,ab e,ab f]⟩) (.agg ⟨[ab a,ab b,ab c,ab d,ab e,ab f]⟩) =
  match some (a == a) with
  | some true => match some (b == b) with
   | some true => match some (c == c) with
    | some true => match some (d == d) with
     | some true => match some (e == e) with
      | some true => match some (f == f) with
       | some true => some true
       | some false => some false
       | none => none
      | some false => some false
      | none => none
     | some false => some false
     | none => none
    | some false => some false
    | none => none
   | some false => some false
   | none => none
  | some false => some false
  | none => none := fun a b c d e f => by kernel_rfl
 have := e p.grass p.bears p.dry p.wet p.stubble p.sleep
 simp only [beq_self_eq_true] at this
 exact this
theorem teqSZ (p : aU) : teq prog 10000 25 (.agg ⟨p.cells⟩) (.agg ⟨p.cells⟩) = some true := by
 have e : ∀ a b c : Int,teq prog 10000 25 (.agg ⟨[ab a,ab b,ab c]⟩) (.agg ⟨[ab a,ab b,ab c]⟩) =
  match some (a == a) with
  | some true => match some (b == b) with
   | some true => match some (c == c) with
    | some true => some true
    | some false => some false
    | none => none
   | some false => some false
   | none => none
  | some false => some false
  | none => none := fun a b c => by kernel_rfl
 have := e p.days p.drought p.flood
 simp only [beq_self_eq_true] at this
 exact this
theorem neqPZ {p : Pas} (hk : KV (.bool false)) : aj prog .neq 23 (.agg ⟨p.cells⟩) (.agg ⟨p.cells⟩) KV := by
 show aEq prog true 23 _ _ _
 unfold aEq
 rw [teqPZ]
 exact ⟨by kernel_rfl,hk⟩
theorem neqSZ {p : aU} (hk : KV (.bool false)) : aj prog .neq 25 (.agg ⟨p.cells⟩) (.agg ⟨p.cells⟩) KV := by
 show aEq prog true 25 _ _ _
 unfold aEq
 rw [teqSZ]
 exact ⟨by kernel_rfl,hk⟩
theorem ext40 {a b c d : Value} (hk : KV a) : bL (.tuple ⟨[a,b,c,d]⟩) 0 KV := hk
theorem ext41 {a b c d : Value} (hk : KV b) : bL (.tuple ⟨[a,b,c,d]⟩) 1 KV := hk
theorem ext42 {a b c d : Value} (hk : KV c) : bL (.tuple ⟨[a,b,c,d]⟩) 2 KV := hk
theorem ext43 {a b c d : Value} (hk : KV d) : bL (.tuple ⟨[a,b,c,d]⟩) 3 KV := hk
end
end Go.Proofs.YtlhanfcgdfjhjaaGreatDoor
namespace Go.Proofs.YtlhanfcgdfjhjaaGreatDoor
open Go.Conc Go.Proofs.Tryz
set_option maxRecDepth 100000
set_option maxHeartbeats 4000000
set_option linter.unusedVariables false
section
variable {main : Bool} {J : JT} {n0 : Nat} {h : List af} {K : Value → List af → Prop}
theorem at35 : prog.funcs[35]? = some f35 := by kernel_rfl
theorem body35 : f35.body = some (codeOf f35) := by kernel_rfl
def pl35 : bj := []
def ct35 : bB := .bin (.go) (.bin (.go) (.bin (.go) (.bin (.bin (.go) (.un (.un (.bin (.go) (.bin (.un (.bin (.go) (.cut (.go)))) (.go)))))) (.go))))
theorem pok35 : aC prog pl35 (codeOf f35) = true := by kernel_rfl
abbrev w35 (J : JT) (n0 : Nat) (p : List Nat) (f : RG) (h : List af) (l : List (RG → List af → Prop)) (K : Value → List af → Prop) : Prop := W prog J 35 n0 35 (aw p (codeOf f35)) f h (aA pl35 prog J 35 n0 35 ct35 p (codeOf f35) l (aq prog [.tmp 4] n0 K))
theorem e35 {a0 a1 : Value} : W prog J 35 h.length 35 (codeOf f35) (RG.mk (ax [a0,a1]) []) h (aq prog [.tmp 4] h.length K) =
(Sem J 35 h.length 35 (aw yp1 (codeOf f35)) (((((RG.mk (ax [a0,a1]) []).p 4 (Value.slice none 0 0)).p 5 (Value.slice none 0 0)).p 6 (ab 0)).p 7 (ab 0)) h (aA pl35 prog J 35 h.length 35 ct35 yp1 (codeOf f35) [] (aq prog [.tmp 4] h.length K))) := aT pok35 ct35 (by kernel_rfl)
theorem g35 (hJ : Closed prog main J) {a0 a1 : Value} (hs : aD h → W prog J 35 h.length 35 (codeOf f35) (RG.mk (ax [a0,a1]) []) h (aq prog [.tmp 4] h.length K)) : Good prog J 35 [a0,a1] h K :=
 az hJ mixed at35 body35 (by kernel_rfl) (Nat.le_of_ble_eq_true rfl) hs
theorem s35_1 {f : RG} {nx0 : RG → List af → Prop} : W prog J 35 n0 35 (aw yp3 (codeOf f35)) f h (bc nx0 (aA pl35 prog J 35 n0 35 ct35 yp1 (codeOf f35) [] (aq prog [.tmp 4] n0 K))) =
(bA (f.r 0) fun v1 =>
aj prog .leq 3 (f.r 7) v1 fun v2 =>
cnd v2
(bA (f.r 0) fun v3 =>
aj prog .eql 3 (f.r 7) v3 fun v4 =>
cnd v4
(bh (w35 J n0 yp17 ((((((((((((((((f.p 8 (f.r 7)).p 9 (f.r 0)).p 10 v1).p 11 v2).p 14 (f.r 7)).p 15 (f.r 0)).p 16 v3).p 17 v4).p 18 v4).p 18 (Value.bool true)).p 19 undef).p 20 undef).p 21 undef).p 22 undef).p 23 undef).p 24 (Value.bool true)) h [nx0] K))
(bX (f.r 0) (f.r 7) fun v5 =>
aj prog .eql 5 v5 (f.r 1) fun v6 =>
bh (w35 J n0 yp17 ((((((((((((((((f.p 8 (f.r 7)).p 9 (f.r 0)).p 10 v1).p 11 v2).p 14 (f.r 7)).p 15 (f.r 0)).p 16 v3).p 17 v4).p 18 v4).p 18 (Value.bool false)).p 19 (f.r 0)).p 20 (f.r 7)).p 21 v5).p 22 (f.r 1)).p 23 v6).p 24 v6) h [nx0] K)))
(aI n0 K f.ds [(f.r 5)] h)) := sub_eq pok35 ct35 (by kernel_rfl)
theorem l35_1 (hJ : Closed prog main J) {S : Type} (μ : S → Nat) (I : S → RG → List af → Prop) (hI : ∀ s f h,I s f h → aD h → n0 ≤ h.length → W prog J 35 n0 35 (aw yp3 (codeOf f35)) f h (bc (Nx n0 μ I s) (aA pl35 prog J 35 n0 35 ct35 yp1 (codeOf f35) [] (aq prog [.tmp 4] n0 K))))
 {s : S} {f : RG} (hi : dJ n0 I s f h) : Sem J 35 n0 35 (aw yp1 (codeOf f35)) f h (aA pl35 prog J 35 n0 35 ct35 yp1 (codeOf f35) [] (aq prog [.tmp 4] n0 K)) :=
 bn hJ mixed (b := aw yp3 (codeOf f35)) (by kernel_rfl) μ I hI hi
theorem s35_2 {f : RG} {nx0 : RG → List af → Prop} : w35 J n0 yp17 f h [nx0] K =
(cnd (f.r 24)
(aZ (f.r 0) (some (f.r 6)) (some (f.r 7)) fun v1 =>
(((1 * 1 : Nat) ≤ 16777216 ∧ (1 : Nat) ≤ 16777216 ∧ List.length [(Value.string { data := #[] })] = 1) ∧ aH (aV [(Value.string { data := #[] })] 1) [(0,1,v1)] fun c2 =>
aX 1 c2 h fun v3 h4 =>
((List.length [(Value.string { data := #[] })] = 1 ∧ 0 < (1 : Nat) ∧ 0 < (16 : Nat) ∧ (16 : Nat) ≤ 1024) ∧ aApp 1 (f.r 5) v3 h4 fun v5 h6 =>
aj prog .add 3 (f.r 7) (ab 1) fun v7 =>
aj prog .add 3 (f.r 7) (ab 1) fun v8 =>
nx0 ((((((((((((((f.p 25 (f.r 5)).p 26 (f.r 0)).p 27 (f.r 6)).p 28 (f.r 7)).p 29 v1).p 30 v3).p 31 v5).p 5 v5).p 32 (f.r 7)).p 33 v7).p 6 v7).p 12 (f.r 7)).p 13 v8).p 7 v8) h6)))
(aj prog .add 3 (f.r 7) (ab 1) fun v9 =>
nx0 (((f.p 12 (f.r 7)).p 13 v9).p 7 v9) h)) := sub_eq pok35 ct35 (by kernel_rfl)
theorem at66 : prog.funcs[66]? = some f66 := by kernel_rfl
theorem body66 : f66.body = some (codeOf f66) := by kernel_rfl
def pl66 : bj := []
def ct66 : bB := .bin (.go) (.bin (.bin (.go) (.cut (.go))) (.bin (.go) (.bin (.bin (.go) (.un (.un (.bin (.go) (.bin (.un (.bin (.bin (.go) (.cut (.go))) (.go))) (.go)))))) (.go))))
theorem pok66 : aC prog pl66 (codeOf f66) = true := by kernel_rfl
abbrev w66 (J : JT) (n0 : Nat) (p : List Nat) (f : RG) (h : List af) (l : List (RG → List af → Prop)) (K : Value → List af → Prop) : Prop := W prog J 49 n0 66 (aw p (codeOf f66)) f h (aA pl66 prog J 49 n0 66 ct66 p (codeOf f66) l (aq prog [.tmp 2,.tmp 3] n0 K))
theorem e66 {a0 : Value} : W prog J 49 h.length 66 (codeOf f66) (RG.mk (ax [a0]) []) h (aq prog [.tmp 2,.tmp 3] h.length K) =
(bA a0 fun v1 =>
aj prog .lss 3 v1 (ab 1) fun v2 =>
cnd v2
(bh (w66 J h.length [1,0,1] (((((((((((((((((((((((RG.mk (ax [a0]) []).p 2 (ab 0)).p 3 (Value.bool false)).p 6 a0).p 7 v1).p 8 v2).p 9 v2).p 9 (Value.bool true)).p 10 undef).p 11 undef).p 12 undef).p 13 (Value.bool true)).p 14 (Value.bool true)).p 14 (Value.bool true)).p 15 undef).p 16 undef).p 17 undef).p 18 undef).p 19 undef).p 20 undef).p 21 undef).p 22 undef).p 23 (Value.bool true)) h [] K))
(bA a0 fun v3 =>
aj prog .gtr 3 v3 (ab 3) fun v4 =>
cnd v4
(bh (w66 J h.length [1,0,1] (((((((((((((((((((((((RG.mk (ax [a0]) []).p 2 (ab 0)).p 3 (Value.bool false)).p 6 a0).p 7 v1).p 8 v2).p 9 v2).p 9 (Value.bool false)).p 10 a0).p 11 v3).p 12 v4).p 13 v4).p 14 v4).p 14 (Value.bool true)).p 15 undef).p 16 undef).p 17 undef).p 18 undef).p 19 undef).p 20 undef).p 21 undef).p 22 undef).p 23 (Value.bool true)) h [] K))
(bX a0 (ab 0) fun v5 =>
aj prog .eql 5 v5 (Value.int .u8 48) fun v6 =>
cnd v6
(bA a0 fun v7 =>
aj prog .gtr 3 v7 (ab 1) fun v8 =>
bh (w66 J h.length [1,0,1] ((((((((((((((((((((((((RG.mk (ax [a0]) []).p 2 (ab 0)).p 3 (Value.bool false)).p 6 a0).p 7 v1).p 8 v2).p 9 v2).p 9 (Value.bool false)).p 10 a0).p 11 v3).p 12 v4).p 13 v4).p 14 v4).p 14 (Value.bool false)).p 15 a0).p 16 v5).p 17 v6).p 18 v6).p 18 (Value.bool true)).p 19 a0).p 20 v7).p 21 v8).p 22 v8).p 23 v8) h [] K))
(bh (w66 J h.length [1,0,1] ((((((((((((((((((((((((RG.mk (ax [a0]) []).p 2 (ab 0)).p 3 (Value.bool false)).p 6 a0).p 7 v1).p 8 v2).p 9 v2).p 9 (Value.bool false)).p 10 a0).p 11 v3).p 12 v4).p 13 v4).p 14 v4).p 14 (Value.bool false)).p 15 a0).p 16 v5).p 17 v6).p 18 v6).p 18 (Value.bool false)).p 19 undef).p 20 undef).p 21 undef).p 22 (Value.bool false)).p 23 (Value.bool false)) h [] K))))) := aT pok66 ct66 (by kernel_rfl)
theorem g66 (hJ : Closed prog main J) {a0 : Value} (hs : aD h → W prog J 49 h.length 66 (codeOf f66) (RG.mk (ax [a0]) []) h (aq prog [.tmp 2,.tmp 3] h.length K)) : Good prog J 66 [a0] h K :=
 az hJ mixed at66 body66 (by kernel_rfl) (Nat.le_of_ble_eq_true rfl) hs
theorem s66_1 {f : RG} : w66 J n0 [1,0,1] f h [] K =
(cnd (f.r 23)
(aI n0 K f.ds [(ab 0),(Value.bool false)] h)
(Sem J 49 n0 66 (aw yp1 (codeOf f66)) ((f.p 4 (ab 0)).p 5 (ab 0)) h (aA pl66 prog J 49 n0 66 ct66 yp1 (codeOf f66) [] (aq prog [.tmp 2,.tmp 3] n0 K)))) := sub_eq pok66 ct66 (by kernel_rfl)
theorem s66_2 {f : RG} {nx0 : RG → List af → Prop} : W prog J 49 n0 66 (aw yp3 (codeOf f66)) f h (bc nx0 (aA pl66 prog J 49 n0 66 ct66 yp1 (codeOf f66) [] (aq prog [.tmp 2,.tmp 3] n0 K))) =
(bA (f.r 0) fun v1 =>
aj prog .lss 3 (f.r 5) v1 fun v2 =>
cnd v2
(bX (f.r 0) (f.r 5) fun v3 =>
aj prog .lss 5 v3 (Value.int .u8 48) fun v4 =>
cnd v4
(bh (w66 J n0 yp18 (((((((((((((((f.p 24 (f.r 5)).p 25 (f.r 0)).p 26 v1).p 27 v2).p 30 (f.r 0)).p 31 (f.r 5)).p 32 v3).p 33 v4).p 34 v4).p 34 (Value.bool true)).p 35 undef).p 36 undef).p 37 undef).p 38 undef).p 39 (Value.bool true)) h [nx0] K))
(bX (f.r 0) (f.r 5) fun v5 =>
aj prog .gtr 5 v5 (Value.int .u8 57) fun v6 =>
bh (w66 J n0 yp18 (((((((((((((((f.p 24 (f.r 5)).p 25 (f.r 0)).p 26 v1).p 27 v2).p 30 (f.r 0)).p 31 (f.r 5)).p 32 v3).p 33 v4).p 34 v4).p 34 (Value.bool false)).p 35 (f.r 0)).p 36 (f.r 5)).p 37 v5).p 38 v6).p 39 v6) h [nx0] K)))
(aI n0 K f.ds [(f.r 4),(Value.bool true)] h)) := sub_eq pok66 ct66 (by kernel_rfl)
theorem l66_2 (hJ : Closed prog main J) {S : Type} (μ : S → Nat) (I : S → RG → List af → Prop) (hI : ∀ s f h,I s f h → aD h → n0 ≤ h.length → W prog J 49 n0 66 (aw yp3 (codeOf f66)) f h (bc (Nx n0 μ I s) (aA pl66 prog J 49 n0 66 ct66 yp1 (codeOf f66) [] (aq prog [.tmp 2,.tmp 3] n0 K))))
 {s : S} {f : RG} (hi : dJ n0 I s f h) : Sem J 49 n0 66 (aw yp1 (codeOf f66)) f h (aA pl66 prog J 49 n0 66 ct66 yp1 (codeOf f66) [] (aq prog [.tmp 2,.tmp 3] n0 K)) :=
 bn hJ mixed (b := aw yp3 (codeOf f66)) (by kernel_rfl) μ I hI hi
theorem s66_3 {f : RG} {nx0 : RG → List af → Prop} : w66 J n0 yp18 f h [nx0] K =
(cnd (f.r 39)
(aI n0 K f.ds [(ab 0),(Value.bool false)] h)
(aj prog .mul 3 (ab 10) (f.r 4) fun v1 =>
bX (f.r 0) (f.r 5) fun v2 =>
aj prog .sub 5 v2 (Value.int .u8 48) fun v3 =>
aConvI .i64 v3 fun v4 =>
aj prog .add 3 v1 v4 fun v5 =>
aj prog .add 3 (f.r 5) (ab 1) fun v6 =>
nx0 ((((((((((((f.p 40 (f.r 4)).p 41 v1).p 42 (f.r 0)).p 43 (f.r 5)).p 44 v2).p 45 v3).p 46 v4).p 47 v5).p 4 v5).p 28 (f.r 5)).p 29 v6).p 5 v6) h)) := sub_eq pok66 ct66 (by kernel_rfl)
theorem at36 : prog.funcs[36]? = some f36 := by kernel_rfl
theorem body36 : f36.body = some (codeOf f36) := by kernel_rfl
def pl36 : bj := [(9,true,.take 0 (.take 1 (.take 2 (.take 3 (.take 4 (.take 5 (.take 6 (.take 7 (.take 8 (.take 9 (.take 10 (.take 11 (.take 12 (.take 13 (.fin)))))))))))))))]
def ct36 : bB := .bin (.go) (.bin (.go) (.bin (.go) (.bin (.go) (.bin (.bin (.go) (.un (.un (.bin (.go) (.bin (.un (.bin (.go) (.bin (.bin (.go) (.cut (.go))) (.go)))) (.go)))))) (.go)))))
theorem pok36 : aC prog pl36 (codeOf f36) = true := by kernel_rfl
abbrev w36 (J : JT) (n0 : Nat) (p : List Nat) (f : RG) (h : List af) (l : List (RG → List af → Prop)) (K : Value → List af → Prop) : Prop := W prog J 54 n0 36 (aw p (codeOf f36)) f h (aA pl36 prog J 54 n0 36 ct36 p (codeOf f36) l (aq prog [.tmp 4,.tmp 5] n0 K))
theorem e36 {a0 a1 : Value} : W prog J 54 h.length 36 (codeOf f36) (RG.mk (ax [a0,a1]) []) h (aq prog [.tmp 4,.tmp 5] h.length K) =
(Good prog J 35 [a0,(Value.int .u8 32)] h fun v1 h2 =>
b0 v1 fun v3 =>
b0 a1 fun v4 =>
aj prog .mul 3 (ab 2) v4 fun v5 =>
aj prog .neq 3 v3 v5 fun v6 =>
cnd v6
(aI h.length K [] [(Value.slice none 0 0),(Value.bool false)] h2)
(Sem J 54 h.length 36 (aw yp8 (codeOf f36)) ((((((((((((((RG.mk (ax [a0,a1]) []).p 4 (Value.slice none 0 0)).p 5 (Value.bool false)).p 11 a0).p 12 v1).p 6 v1).p 13 v1).p 14 v3).p 15 a1).p 16 v4).p 17 v5).p 18 v6).p 7 (Value.slice none 0 0)).p 8 (ab 0)) h2 (aA pl36 prog J 54 h.length 36 ct36 yp8 (codeOf f36) [] (aq prog [.tmp 4,.tmp 5] h.length K)))) := aT pok36 ct36 (by kernel_rfl)
theorem g36 (hJ : Closed prog main J) {a0 a1 : Value} (hs : aD h → W prog J 54 h.length 36 (codeOf f36) (RG.mk (ax [a0,a1]) []) h (aq prog [.tmp 4,.tmp 5] h.length K)) : Good prog J 36 [a0,a1] h K :=
 az hJ mixed at36 body36 (by kernel_rfl) (Nat.le_of_ble_eq_true rfl) hs
theorem s36_1 {f : RG} {nx0 : RG → List af → Prop} : W prog J 54 n0 36 (aw [1,1,1,1,0,1,0,0] (codeOf f36)) f h (bc nx0 (aA pl36 prog J 54 n0 36 ct36 yp8 (codeOf f36) [] (aq prog [.tmp 4,.tmp 5] n0 K))) =
(b0 (f.r 1) fun v1 =>
aj prog .lss 3 (f.r 8) v1 fun v2 =>
cnd v2
(aj prog .mul 3 (ab 2) (f.r 8) fun v3 =>
aj prog .add 3 v3 (ab 1) fun v4 =>
bT 1 (f.r 6) v4 fun v5 =>
ai false 1 v5 h fun v6 =>
Good prog J 66 [v6] h fun v7 h8 =>
bL v7 0 fun v9 =>
bL v7 1 fun v10 =>
aj prog .mul 3 (ab 2) (f.r 8) fun v11 =>
bT 1 (f.r 6) v11 fun v12 =>
ai false 1 v12 h8 fun v13 =>
bT 1 (f.r 1) (f.r 8) fun v14 =>
ai false 1 v14 h8 fun v15 =>
aj prog .neq 9 v13 v15 fun v16 =>
cnd v16
(bh (w36 J n0 yp19 (((((((((((((((((((((((((((((((f.p 19 (f.r 8)).p 20 (f.r 1)).p 21 v1).p 22 v2).p 26 (f.r 6)).p 27 (f.r 8)).p 28 v3).p 29 v4).p 30 v5).p 31 v6).p 32 v7).p 25 v7).p 33 v9).p 34 v10).p 9 v9).p 10 v10).p 35 (f.r 6)).p 36 (f.r 8)).p 37 v11).p 38 v12).p 39 v13).p 40 (f.r 1)).p 41 (f.r 8)).p 42 v14).p 43 v15).p 44 v16).p 45 v16).p 45 (Value.bool true)).p 46 undef).p 47 undef).p 48 (Value.bool true)) h8 [nx0] K))
(aUn .not v10 fun v17 =>
bh (w36 J n0 yp19 (((((((((((((((((((((((((((((((f.p 19 (f.r 8)).p 20 (f.r 1)).p 21 v1).p 22 v2).p 26 (f.r 6)).p 27 (f.r 8)).p 28 v3).p 29 v4).p 30 v5).p 31 v6).p 32 v7).p 25 v7).p 33 v9).p 34 v10).p 9 v9).p 10 v10).p 35 (f.r 6)).p 36 (f.r 8)).p 37 v11).p 38 v12).p 39 v13).p 40 (f.r 1)).p 41 (f.r 8)).p 42 v14).p 43 v15).p 44 v16).p 45 v16).p 45 (Value.bool false)).p 46 v10).p 47 v17).p 48 v17) h8 [nx0] K)))
(aI n0 K f.ds [(f.r 7),(Value.bool true)] h)) := sub_eq pok36 ct36 (by kernel_rfl)
theorem l36_1 (hJ : Closed prog main J) {S : Type} (μ : S → Nat) (I : S → RG → List af → Prop) (hI : ∀ s f h,I s f h → aD h → n0 ≤ h.length → W prog J 54 n0 36 (aw [1,1,1,1,0,1,0,0] (codeOf f36)) f h (bc (Nx n0 μ I s) (aA pl36 prog J 54 n0 36 ct36 yp8 (codeOf f36) [] (aq prog [.tmp 4,.tmp 5] n0 K))))
 {s : S} {f : RG} (hi : dJ n0 I s f h) : Sem J 54 n0 36 (aw yp8 (codeOf f36)) f h (aA pl36 prog J 54 n0 36 ct36 yp8 (codeOf f36) [] (aq prog [.tmp 4,.tmp 5] n0 K)) :=
 bn hJ mixed (b := aw [1,1,1,1,0,1,0,0] (codeOf f36)) (by kernel_rfl) μ I hI hi
theorem s36_2 {f : RG} {nx0 : RG → List af → Prop} : w36 J n0 yp19 f h [nx0] K =
(cnd (f.r 48)
(aI n0 K f.ds [(Value.slice none 0 0),(Value.bool false)] h)
((((1 * 1 : Nat) ≤ 16777216 ∧ (1 : Nat) ≤ 16777216 ∧ List.length [(ab 0)] = 1) ∧ aH (aV [(ab 0)] 1) [(0,1,(f.r 9))] fun c1 =>
aX 1 c1 h fun v2 h3 =>
((List.length [(ab 0)] = 1 ∧ 0 < (1 : Nat) ∧ 0 < (8 : Nat) ∧ (8 : Nat) ≤ 1024) ∧ aApp 1 (f.r 7) v2 h3 fun v4 h5 =>
aj prog .add 3 (f.r 8) (ab 1) fun v6 =>
nx0 ((((((((f.p 49 (f.r 7)).p 50 (f.r 9)).p 51 v2).p 52 v4).p 7 v4).p 23 (f.r 8)).p 24 v6).p 8 v6) h5)))) := sub_eq pok36 ct36 (by kernel_rfl)
end
end Go.Proofs.YtlhanfcgdfjhjaaGreatDoor
namespace Go.Proofs.YtlhanfcgdfjhjaaGreatDoor
open Go.Conc Go.Proofs.Tryz
set_option maxRecDepth 100000
theorem parts_step {c : UInt8} {s : List UInt8} {fr i : Nat} (hf : fr ≤ i) (hx : s[i]? = some c) (hno : ∀ b ∈ (s.take i).drop fr,b ≠ c) : aE c (s.drop fr) = (s.take i).drop fr :: aE c (s.drop (i + 1)) := by
 obtain ⟨hi,hc⟩ := List.getElem?_eq_some_iff.1 hx
 have : s.drop fr = (s.take i).drop fr ++ c :: s.drop (i + 1) := by
  have h1 : s = s.take i ++ c :: s.drop (i + 1) := by rw [← hc,List.getElem_cons_drop,List.take_append_drop]
  have h2 : fr ≤ (s.take i).length := by simp; omega
  calc s.drop fr = (s.take i ++ c :: s.drop (i + 1)).drop fr := by rw [← h1]
   _ = _ := List.drop_append_of_le_length h2
 rw [this,partsB_cut _ _ hno]
theorem take_drop_snoc {s : List UInt8} {fr i : Nat} {x : UInt8} (hf : fr ≤ i) (hx : s[i]? = some x) : (s.take (i + 1)).drop fr = (s.take i).drop fr ++ [x] := by
 have hi := (List.getElem?_eq_some_iff.1 hx).1
 rw [take_snoc hx,List.drop_append_of_le_length (by simp; omega)]
section
variable {main : Bool} {J : JT} {H : List af} {K : Value → List af → Prop} {KV : Value → Prop} {F : RG} {n0 : Nat}
theorem ownX_nil {s : Nat} : OwnX H s [] 0 (.slice none 0 0) none := ⟨by simp,rfl,.inl ⟨rfl,rfl,rfl⟩⟩
theorem good35 (hJ : Closed prog main J) {s : List UInt8} {c : UInt8} (hs : s.length ≤ 900) (hK : ∀ v H',ag [] H H' → Sli H' v 1 (aE c s).length ((aE c s).map ay) → K v H') : Good prog J 35 [ay s,.int .u8 c.toNat] H K := by
 refine g35 hJ fun ok => ?_
 rw [e35]
 refine l35_1 hJ (S := Nat) (fun i => s.length + 2 - i) (fun i F H' => ∃ (L : List (List UInt8)) (fr : Nat) (v : Value) (o : Option Nat),F.ds = [] ∧ F.r 0 = ay s ∧ F.r 1 = .int .u8 c.toNat ∧ F.r 5 = v ∧ F.r 6 = ab (fr : Nat) ∧ F.r 7 = ab (i : Nat) ∧ OwnX H' 1 (L.map ay) L.length v o ∧ (∀ k,o = some k → H.length ≤ k) ∧ ag [] H H' ∧ L.length ≤ i ∧
   ((i ≤ s.length ∧ fr ≤ i ∧ aE c s = L ++ aE c (s.drop fr) ∧ ∀ b ∈ (s.take i).drop fr,b ≠ c) ∨ (i = s.length + 1 ∧ fr ≤ i ∧ L = aE c s))) ?_ (s := 0)
  (.inl ⟨[],0,_,none,rfl,rfl,rfl,rfl,rfl,rfl,ownX_nil,(fun k e => by cases e),ag.refl,Nat.le_refl _,.inl ⟨Nat.zero_le _,Nat.le_refl _,by simp,by simp⟩⟩)
 rintro i F H' ⟨L,fr,v,o,ds,r0,r1,r5,r6,r7,O,hO,S,hL,hcase⟩ ok' hn'
 rw [s35_1]
 simp only [ds,r0,r1,r5,r7]
 refine di (leqI (ba (fun hle => di (eqlI ?_)) fun hgt => ?_))
 ·obtain ⟨hi,hf,hp,hno⟩ := hcase.resolve_right (fun h => by omega)
  have out : ∀ {F : RG} {q : Bool},F.ds = [] → F.r 0 = ay s → F.r 1 = .int .u8 c.toNat → F.r 5 = v → F.r 6 = ab (fr : Nat) → F.r 7 = ab (i : Nat) → F.r 24 = .bool q → (q = true ↔ i = s.length ∨ s[i]? = some c) → _ := fun {F q} ds r0 r1 r5 r6 r7 r24 hq => show w35 J H.length yp17 F H' [Nx H.length (fun i => s.length + 2 - i) (fun i F H' => ∃ (L : List (List UInt8)) (fr : Nat) (v : Value) (o : Option Nat),F.ds = [] ∧ F.r 0 = ay s ∧ F.r 1 = .int .u8 c.toNat ∧ F.r 5 = v ∧ F.r 6 = ab (fr : Nat) ∧ F.r 7 = ab (i : Nat) ∧ OwnX H' 1 (L.map ay) L.length v o ∧ (∀ k,o = some k → H.length ≤ k) ∧ ag [] H H' ∧ L.length ≤ i ∧
   ((i ≤ s.length ∧ fr ≤ i ∧ aE c s = L ++ aE c (s.drop fr) ∧ ∀ b ∈ (s.take i).drop fr,b ≠ c) ∨ (i = s.length + 1 ∧ fr ≤ i ∧ L = aE c s))) i] K by
   rw [s35_2]
   simp only [r0,r5,r6,r7,r24]
   cases q with
   | true =>
    refine bm.2 (slS ⟨hf,hi⟩ ⟨⟨by decide,by decide,rfl⟩,aK (l := [ay ((s.take i).drop fr)]) rfl rfl rfl (by decide) (bu (du fun H2 p2 e2 S2 c2 l2 => ⟨⟨rfl,by decide,by decide,by decide⟩,?_⟩))⟩)
    have c2 : H2[p2]? = some (.cells [ay ((s.take i).drop fr)] true 0) := c2
    have O2 := dI O S2 (by simp)
    refine ownX_more O2 (by omega) (by omega) (bS (dv (s := 1) (n := 1) c2 rfl rfl)) fun v' H3 p3 e3 O3 S3 => ck (by omega) (ck (by omega) ⟨i + 1,by dsimp only; omega,.inl ⟨L ++ [(s.take i).drop fr],i + 1,v',some p3,ds,r0,r1,rfl,rfl,rfl,by simpa using O3,(fun k e => by cases e; have := S.1; have := S2.1; omega),(S.trans S2).bq S3 (fun y hy => .inr (hO y (by simpa using hy))),by simp; omega,?_⟩⟩)
    rcases Nat.lt_or_ge i s.length with hlt | hge
    ·have hx : s[i]? = some c := (hq.1 rfl).resolve_left (by omega)
     refine .inl ⟨hlt,Nat.le_refl _,?_,?_⟩
     ·rw [hp,parts_step hf hx hno]
      simp
     ·rw [List.drop_of_length_le (by simp; omega)]
      simp
    ·have hie : i = s.length := by omega
     refine .inr ⟨by omega,Nat.le_refl _,?_⟩
     subst hie
     rw [List.take_length] at hno ⊢
     rw [hp,partsB_one _ hno]
   | false =>
    have hlt : i < s.length := by
     rcases Nat.lt_or_ge i s.length with h | h
     ·exact h
     ·have := hq.2 (.inl (by omega))
      cases this
    have hx : s[i]? = some s[i] := List.getElem?_eq_getElem hlt
    refine aP.2 (ck (by omega) ⟨i + 1,by dsimp only; omega,.inl ⟨L,fr,v,o,ds,r0,r1,r5,r6,rfl,O,hO,S,by omega,.inl ⟨hlt,by omega,hp,?_⟩⟩⟩)
    rw [take_drop_snoc hf hx]
    intro b hb
    rcases List.mem_append.1 hb with hb | hb
    ·exact hno b hb
    ·rw [List.mem_singleton.1 hb]
     intro e
     have := hq.2 (.inr (by rw [hx,e]))
     cases this
  refine ba (fun he => hold.2 ?_) fun hne => ?_
  ·exact out ds r0 r1 r5 r6 r7 rfl ⟨fun _ => .inl (by omega),fun _ => rfl⟩
  ·have hlt : i < s.length := by omega
   have hx : s[i]? = some s[i] := List.getElem?_eq_getElem hlt
   refine idS hx (eqU (hold.2 (out ds r0 r1 r5 r6 r7 rfl ?_)))
   rw [decide_eq_true_iff]
   exact ⟨fun e => .inr (by rw [hx,e]),fun h => by
    rcases h with h | h
    ·omega
    ·rw [hx] at h
     exact Option.some.inj h⟩
 ·obtain ⟨hi,_,hp⟩ := hcase.resolve_left (fun h => by omega)
  subst hp
  refine ao (by
   intro x hx
   rw [List.mem_singleton.1 hx]
   obtain ⟨b,k,e,_⟩ := bS O
   rw [e]
   simp [unk]) (hK v H' S (bS O))
theorem dgs_1 (hJ : Closed prog main J) {d : List UInt8} (ds : F.ds = []) (r0 : F.r 0 = ay d) {pre : Bool} (r23 : F.r 23 = .bool (!pre)) (hpre : pre = true → d.length ≤ 3)
  (k1 : (pre && d.all cM) = true → K (.tuple ⟨[ab (valB d),.bool true]⟩) H) (k2 : (pre && d.all cM) = false → K (.tuple ⟨[ab 0,.bool false]⟩) H) :
  w66 J n0 [1,0,1] F H [] K := by
 rw [s66_1]
 simp only [ds,r23]
 cases pre with
 | false => exact bm.2 (ao (by simp [unk]) (k2 rfl))
 | true =>
  have hd3 := hpre rfl
  simp only [Bool.true_and] at k1 k2
  refine aP.2 ?_
  refine l66_2 hJ (S := Nat) (fun i => d.length + 1 - i) (fun i F H' => H' = H ∧ i ≤ d.length ∧ F.ds = [] ∧ F.r 0 = ay d ∧ F.r 5 = ab (i : Nat) ∧ F.r 4 = ab (valB (d.take i)) ∧ (d.take i).all cM = true) ?_ (s := 0) (.inl ⟨rfl,Nat.zero_le _,ds,r0,rfl,rfl,rfl⟩)
  rintro i F H' ⟨rfl,hi,ds,r0,r5,r4,hall⟩ ok' hn'
  rw [s66_2]
  simp only [ds,r0,r4,r5]
  have hbd := valB_small hall (by simp; omega)
  refine di (dh (ba (fun hlt => ?_) fun hge => ?_))
  ·have hil : i < d.length := by omega
   have hx : d[i]? = some d[i] := List.getElem?_eq_getElem hil
   generalize d[i] = x at hx
   have hxl := x.toNat_lt
   have htk := take_snoc hx
   have bad : cM x = false → d.all cM = false := fun h => by
    cases ha : d.all cM with
    | false => rfl
    | true =>
     rw [List.all_eq_true] at ha
     rw [ha x (List.mem_of_getElem? hx)] at h
     cases h
   have out : ∀ {F : RG} {b2 : Bool},F.ds = [] → F.r 39 = .bool b2 → F.r 4 = ab (valB (d.take i)) → F.r 0 = ay d → F.r 5 = ab (i : Nat) → cM x = !b2 → _ := fun {F b2} ds r39 r4 r0 r5 hdig => show w66 J n0 yp18 F H' [Nx n0 (fun i => d.length + 1 - i) (fun i F H2 => H2 = H' ∧ i ≤ d.length ∧ F.ds = [] ∧ F.r 0 = ay d ∧ F.r 5 = ab (i : Nat) ∧ F.r 4 = ab (valB (d.take i)) ∧ (d.take i).all cM = true) i] K by
    rw [s66_3]
    simp only [ds,r39,r4,r0,r5]
    cases b2 with
    | true => exact bm.2 (ao (by simp [unk]) (k2 (bad hdig)))
    | false =>
     have hdig : cM x = true := hdig
     rw [isDig_iff] at hdig
     refine aP.2 (mulI ⟨by omega,by omega⟩ (idS hx (subU ⟨by omega,by omega⟩ (cvI64 ⟨by omega,by omega⟩ (ck ⟨by omega,by omega⟩ (ck ⟨by omega,by omega⟩ ⟨i + 1,by dsimp only; omega,.inl ⟨rfl,by omega,ds,r0,rfl,?_,?_⟩⟩))))))
     ·show ab _ = ab _
      rw [htk,valB_snoc,Int.mul_comm 10]
     ·rw [htk,List.all_append,hall]
      simp [isDig_iff,hdig]
   refine idS hx (lssK (ba (fun hlo => hold.2 ?_) fun hlo => idS hx (gtrK (hold.2 ?_))))
   ·exact out ds rfl r4 r0 r5 (by
     have : ¬ (48 ≤ x.toNat) := by omega
     simp [cM,this])
   ·refine out ds rfl r4 r0 r5 ?_
    have h48 : 48 ≤ x.toNat := by omega
    simp only [cM,decide_eq_true h48,Bool.true_and]
    rw [← decide_not]
    congr 1
    exact propext ⟨fun h => by omega,fun h => by omega⟩
  ·have hid : i = d.length := by omega
   subst hid
   rw [List.take_length] at hall hbd
   simp only [List.take_length]
   exact ao (by simp [unk]) (k1 hall)
theorem good66 (hJ : Closed prog main J) {d : List UInt8} (k1 : ∀ n,unsB d = some n → K (.tuple ⟨[ab n,.bool true]⟩) H) (k2 : unsB d = none → K (.tuple ⟨[ab 0,.bool false]⟩) H) (hs : d.length ≤ 2000) : Good prog J 66 [ay d] H K := by
 refine g66 hJ fun ok => ?_
 rw [e66]
 unfold unsB digsOk at k1 k2
 have k1 : ∀ pre,pre = (decide (1 ≤ d.length) && decide (d.length ≤ 3) && !(d.head? == some 48 && (false || decide (1 < d.length)))) → (pre && d.all cM) = true → K (.tuple ⟨[ab (valB d),.bool true]⟩) H := fun pre e h => k1 _ (by rw [← e,if_pos h])
 have k2 : ∀ pre,pre = (decide (1 ≤ d.length) && decide (d.length ≤ 3) && !(d.head? == some 48 && (false || decide (1 < d.length)))) → (pre && d.all cM) = false → K (.tuple ⟨[ab 0,.bool false]⟩) H := fun pre e h => k2 (by rw [← e,if_neg (by simp [h])])
 have go : ∀ {F : RG} (pre : Bool),F.ds = [] → F.r 0 = ay d → F.r 23 = .bool (!pre) → pre = (decide (1 ≤ d.length) && decide (d.length ≤ 3) && !(d.head? == some 48 && (false || decide (1 < d.length)))) → _ := fun {F} pre ds r0 r23 hp =>
  dgs_1 (n0 := H.length) (F := F) hJ ds r0 r23 (fun h => by
   rw [h] at hp
   have := hp.symm
   simp only [Bool.and_eq_true,decide_eq_true_eq] at this
   omega) (k1 pre hp) (k2 pre hp)
 refine di (dh (ba (fun h => hold.2 ?_) fun h1 => di (gtrI (ba (fun h => hold.2 ?_) fun h3 => ?_))))
 ·exact go false rfl rfl rfl (by rw [decide_eq_false (by omega : ¬ 1 ≤ d.length)]; rfl)
 ·exact go false rfl rfl rfl (by rw [decide_eq_false (by omega : ¬ d.length ≤ 3),Bool.and_false]; rfl)
 ·cases d with
  | nil => exact absurd (by simp) h1
  | cons x r =>
   have e1 : decide (1 ≤ (x :: r).length) = true := decide_eq_true (by simp)
   have e3 : decide ((x :: r).length ≤ 3) = true := decide_eq_true (by omega)
   rw [e1,e3] at go
   simp only [Bool.true_and,List.head?_cons,Bool.false_or] at go
   refine idS (j := 0) (b := x) rfl (eqU48 (ba (fun hx => ?_) fun hx => hold.2 ?_))
   ·subst hx
    refine di (gtrI (hold.2 (go (!decide (1 < (48 :: r : List UInt8).length)) rfl rfl ?_ (by simp))))
    rw [Bool.not_not]
    show Value.bool _ = Value.bool _
    congr 1
    exact decide_eq_decide.2 ⟨fun h => by omega,fun h => by omega⟩
   ·exact go true rfl rfl rfl (by
     have : (some x == some (48 : UInt8)) = false := by simpa using hx
     rw [this]
     rfl)
end
section
variable {main : Bool} {J : JT} {H : List af} {K : Value → List af → Prop} {KV : Value → Prop} {F : RG} {n0 : Nat}
def FldI (n0 : Nat) (H1 : List af) (ns w : List (List UInt8)) (wv nv : Value) (x : Nat × List Int) (F : RG) (H' : List af) : Prop :=
 x.1 ≤ ns.length ∧ F.ds = [] ∧ F.r 1 = nv ∧ F.r 6 = wv ∧ F.r 8 = ab (x.1 : Nat) ∧ ag [] H1 H' ∧ x.2.length = x.1 ∧
  (∃ (v : Value) (o : Option Nat),F.r 7 = v ∧ OwnX H' 1 (x.2.map ab) x.2.length v o ∧ ∀ k,o = some k → n0 ≤ k) ∧
  cY ns w = (cY (ns.drop x.1) (w.drop (2 * x.1))).map (x.2 ++ ·)
set_option maxHeartbeats 1000000 in
theorem good36 (hJ : Closed prog main J) {line : List UInt8} {ns : List (List UInt8)} {nv : Value} (hs : line.length ≤ 900) (hsm : ns.length < 900) (hn : Sli H nv 1 ns.length (ns.map ay))
  (k1 : ∀ xs v o H',cY ns (aE 32 line) = some xs → ag [] H H' → OwnX H' 1 (xs.map ab) xs.length v o → (∀ k,o = some k → H.length ≤ k) → K (.tuple ⟨[v,.bool true]⟩) H')
  (k2 : ∀ H',cY ns (aE 32 line) = none → ag [] H H' → K (.tuple ⟨[.slice none 0 0,.bool false]⟩) H') :
  Good prog J 36 [ay line,nv] H K := by
 refine g36 hJ fun ok => ?_
 rw [e36]
 have hpl := parts_le 32 line
 refine good35 (c := 32) hJ hs fun wv H1 S1 slw => lenI slw (lenI (S1.sli hn (by simp)) ?_)
 have hpm : ∀ x ∈ aE 32 line,x.length ≤ 900 := fun x hx => by have := partsB_len (c := 32) line x hx; omega
 have hn1 := S1.sli hn (by simp)
 have hH1 := S1.1
 have bad : ∀ {F : RG} {H' : List af},F.ds = [] → cY ns (aE 32 line) = none → ag [] H1 H' → aI H.length K F.ds [.slice none 0 0,.bool false] H' := fun ds hf S => by
  rw [ds]
  exact ao (by simp [unk]) (k2 _ hf (S1.trans S))
 generalize aE 32 line = w at *
 ·refine mulI (by omega) (neqI (ba (fun hne => ?_) fun heq => ?_))
  ·refine bad (F := RG.mk (ax []) []) rfl ?_ ag.refl
   cases hf : cY ns w with
   | none => rfl
   | some xs =>
    have := (fillW_len hf).1
    omega
  ·have hwl : w.length = 2 * ns.length := by omega
   refine l36_1 hJ (S := Nat × List Int) (fun x => ns.length + 1 - x.1) (FldI H1.length H1 ns w wv nv) ?_ (s := (0,[]))
    (.inl ⟨Nat.zero_le _,rfl,rfl,rfl,rfl,ag.refl,rfl,⟨_,none,rfl,ownX_nil,fun k e => by cases e⟩,by simp⟩)
   rintro ⟨i,xs⟩ F H' ⟨hi,ds,r1,r6,r8,S,hlen,⟨v,o,r7,O,hO⟩,hfill⟩ ok' hn'
   simp only at hi r8 hlen r7 O hfill
   rw [s36_1]
   simp only [ds,r1,r6,r7,r8]
   have slw' := S.sli slw (by simp)
   have hn' := S.sli hn1 (by simp)
   refine lenI hn' (dh (ba (fun hlt => ?_) fun hge => ?_))
   ·have hil : i < ns.length := by omega
    obtain ⟨nmi,hnm⟩ : ∃ x,ns[i]? = some x := ⟨_,List.getElem?_eq_getElem hil⟩
    obtain ⟨a,ha⟩ : ∃ x,w[2 * i]? = some x := ⟨_,List.getElem?_eq_getElem (by omega)⟩
    obtain ⟨d,hd⟩ : ∃ x,w[2 * i + 1]? = some x := ⟨_,List.getElem?_eq_getElem (by omega)⟩
    rw [fillW_step hnm ha hd] at hfill
    have hdl := hpm d (List.mem_of_getElem? hd)
    have gw : ∀ {j : Nat} {x : List UInt8},w[j]? = some x → (w.map ay)[(j : Int).toNat]? = some (ay x) := fun {j x} h => by
     rw [Int.toNat_natCast,List.getElem?_map,h]
     rfl
    have gn : (ns.map ay)[(i : Int).toNat]? = some (ay nmi) := by
     rw [Int.toNat_natCast,List.getElem?_map,hnm]
     rfl
    refine mulI (by omega) (ck (by omega) ?_)
    rw [show (2 : Int) * (i : Int) + 1 = ((2 * i + 1 : Nat) : Int) by omega]
    refine cF (x := ay d) slw' ⟨by omega,by omega⟩ (gw hd) fun _ => ?_
    have out : ∀ {F : RG} {q : Bool} {x : Int},F.ds = [] → F.r 48 = .bool q → F.r 1 = nv → F.r 6 = wv → F.r 7 = v → F.r 8 = ab (i : Nat) → F.r 9 = ab x → (q = true → cY ns w = none) → (q = false → a = nmi ∧ unsB d = some x) → _ :=
     fun {F q x} ds r48 r1 r6 r7 r8 r9 hq1 hq2 => show w36 J H.length yp19 F H' [Nx H.length (fun x : Nat × List Int => ns.length + 1 - x.1) (FldI H1.length H1 ns w wv nv) (i,xs)] K by
     rw [s36_2]
     simp only [r48,r7,r8,r9]
     cases q with
     | true => exact bm.2 (bad ds (hq1 rfl) S)
     | false =>
      obtain ⟨hai,hui⟩ := hq2 rfl
      rw [if_pos hai,hui,Option.bind_some,Option.map_map] at hfill
      refine aP.2 ⟨⟨by decide,by decide,rfl⟩,aK (l := [ab x]) rfl rfl rfl (Nat.le_of_ble_eq_true rfl) (bu (du fun H2 p2 e2 S2 c2 l2 => ⟨⟨rfl,by decide,by decide,by decide⟩,?_⟩))⟩
      have c2 : H2[p2]? = some (.cells [ab x] true 0) := c2
      have O2 := dI O S2 (by simp)
      refine ownX_more O2 (by omega) (by omega) (bS (dv (s := 1) (n := 1) c2 rfl rfl)) fun v' H3 p3 e3 O3 S3 => ck (by omega) ⟨(i + 1,xs ++ [x]),by dsimp only; omega,.inl ⟨hil,ds,r1,r6,rfl,?_,by simp [hlen],⟨v',some p3,rfl,by simpa using O3,fun k e => by cases e; have := S.1; have := S2.1; omega⟩,?_⟩⟩
      ·have S13 := (S.trans S2).1
       refine ⟨by have := S3.1; omega,fun j hj _ => ?_⟩
       rw [S3.2 j (by omega) (fun hm => ?_),(S.trans S2).2 j hj (by simp)]
       have := hO j (by simpa using hm)
       omega
      ·rw [hfill]
       congr 1
       funext l
       simp
    refine good66 hJ (fun x hx => ?_) (fun hx => ?_) (by omega)
    ·refine ext0 (ext1 (mulI (by omega) ?_))
     rw [show (2 : Int) * (i : Int) = ((2 * i : Nat) : Int) by omega]
     refine cF (x := ay a) slw' ⟨by omega,by omega⟩ (gw ha) fun _ => cF (x := ay nmi) hn' ⟨by omega,by omega⟩ gn fun _ => neS (ba (fun h => hold.2 ?_) fun h => dU (hold.2 ?_))
     ·refine out (q := true) (x := x) ds rfl r1 r6 r7 r8 rfl (fun _ => ?_) fun h => by cases h
      rw [if_neg h] at hfill
      simpa using hfill
     ·exact out (q := false) (x := x) ds rfl r1 r6 r7 r8 rfl (fun h => by cases h) fun _ => ⟨Decidable.not_not.1 h,hx⟩
    ·refine ext0 (ext1 (mulI (by omega) ?_))
     rw [show (2 : Int) * (i : Int) = ((2 * i : Nat) : Int) by omega]
     rw [hx] at hfill
     have hnone : cY ns w = none := by simpa using hfill
     refine cF (x := ay a) slw' ⟨by omega,by omega⟩ (gw ha) fun _ => cF (x := ay nmi) hn' ⟨by omega,by omega⟩ gn fun _ => neS (ba (fun h => hold.2 ?_) fun h => dU (hold.2 ?_))
     ·exact out (q := true) (x := 0) ds rfl r1 r6 r7 r8 rfl (fun _ => hnone) fun h => by cases h
     ·exact out (q := true) (x := 0) ds rfl r1 r6 r7 r8 rfl (fun _ => hnone) fun h => by cases h
   ·have hie : i = ns.length := by omega
    subst hie
    rw [List.drop_length,← hwl,List.drop_length] at hfill
    have hfill : cY ns w = some xs := by rw [hfill]; simp [cY]
    refine ao (by
     intro x hx
     simp only [List.mem_cons,List.not_mem_nil,or_false] at hx
     rcases hx with rfl | rfl
     ·obtain ⟨b,k,e,_⟩ := bS O
      rw [e]
      simp [unk]
     ·simp [unk]) (k1 xs v o H' hfill (S1.trans S) O fun k hk => by have := hO k hk; omega)
end
end Go.Proofs.YtlhanfcgdfjhjaaGreatDoor
namespace Go.Proofs.YtlhanfcgdfjhjaaGreatDoor
open Go.Conc Go.Proofs.Tryz
set_option maxRecDepth 100000
set_option maxHeartbeats 4000000
set_option linter.unusedVariables false
section
variable {main : Bool} {J : JT} {n0 : Nat} {h : List af} {K : Value → List af → Prop}
theorem at13 : prog.funcs[13]? = some f13 := by kernel_rfl
theorem body13 : f13.body = some (codeOf f13) := by kernel_rfl
def pl13 : bj := [(4,false,.take 0 (.take 1 (.last 2 true (.last 3 false (.take 4 (.take 5 (.fin))))))),
 (12,false,.take 0 (.take 1 (.take 2 (.take 3 (.last 4 true (.last 5 false (.take 6 (.take 7 (.fin))))))))),
 (13,true,.take 0 (.take 1 (.take 2 (.take 3 (.take 4 (.take 5 (.take 6 (.take 7 (.last 8 false (.take 9 (.take 10 (.take 11 (.take 12 (.take 13 (.fin))))))))))))))),
 (15,false,.take 0 (.take 1 (.take 2 (.take 3 (.last 4 true (.last 5 false (.take 6 (.take 7 (.fin))))))))),
 (18,false,.take 0 (.take 1 (.last 2 true (.last 3 false (.take 4 (.take 5 (.fin))))))),
 (19,false,.take 0 (.take 1 (.take 2 (.take 3 (.take 4 (.take 5 (.take 6 (.take 7 (.take 8 (.take 9 (.take 10 (.take 11 (.take 12 (.take 13 (.take 14 (.take 15 (.take 16 (.take 17 (.take 18 (.last 19 true (.last 20 false (.fin)))))))))))))))))))))),
 (20,false,.take 0 (.take 1 (.take 2 (.take 3 (.take 4 (.take 5 (.take 6 (.take 7 (.take 8 (.take 9 (.last 10 true (.last 11 false (.fin))))))))))))),
 (23,false,.take 0 (.take 1 (.take 2 (.last 3 true (.last 4 false (.take 5 (.take 6 (.fin)))))))),
 (26,false,.take 0 (.take 1 (.take 2 (.last 3 true (.last 4 false (.take 5 (.take 6 (.fin)))))))),
 (27,false,.take 0 (.take 1 (.last 2 true (.last 3 false (.take 4 (.take 5 (.fin)))))))]
def ct13 : bB := .bin (.go) (.bin (.go) (.bin (.go) (.bin (.go) (.cut (.bin (.go) (.cut (.bin (.go) (.cut (.bin (.go) (.bin (.bin (.go) (.un (.un (.bin (.go) (.bin (.un (.bin (.go) (.cut (.bin (.go) (.bin (.go) (.cut (.go))))))) (.go)))))) (.bin (.bin (.go) (.cut (.go))) (.cut (.bin (.go) (.cut (.bin (.go) (.cut (.bin (.go) (.cut (.bin (.go) (.cut (.go)))))))))))))))))))))
theorem pok13 : aC prog pl13 (codeOf f13) = true := by kernel_rfl
abbrev w13 (J : JT) (n0 : Nat) (p : List Nat) (f : RG) (h : List af) (l : List (RG → List af → Prop)) (K : Value → List af → Prop) : Prop := W prog J 119 n0 13 (aw p (codeOf f13)) f h (aA pl13 prog J 119 n0 13 ct13 p (codeOf f13) l (aq prog [.cell 2 23,.cell 3 25,.tmp 4,.tmp 5] n0 K))
theorem e13 {a0 : Value} : W prog J 119 h.length 13 (codeOf f13) (RG.mk (ax [a0]) []) h (aq prog [.cell 2 23,.cell 3 25,.tmp 4,.tmp 5] h.length K) =
(bo [(ab 0),(ab 0),(ab 0),(ab 0),(ab 0),(ab 0)] h fun v1 h2 =>
bo [(ab 0),(ab 0),(ab 0)] h2 fun v3 h4 =>
bo [(ab 0),(ab 0),(ab 0),(ab 0),(ab 0),(ab 0)] h4 fun v5 h6 =>
bo [(ab 0),(ab 0),(ab 0)] h6 fun v7 h8 =>
bA a0 fun v9 =>
aj prog .gtr 3 v9 (ab 120) fun v10 =>
cnd v10
((∃ B,ai true 6 v5 h8 fun v11 =>
aR (some B) (au v5) ∧ (ai true 3 v7 h8 fun v12 =>
aR (some B) (au v7) ∧ (aB 6 v1 v11 h8 fun h13 =>
aG (some B) h8 h13 ∧ (aB 3 v3 v12 h13 fun h14 =>
aq prog [.cell 2 23,.cell 3 25,.tmp 4,.tmp 5] h.length K .ret ((((((((((((((RG.mk (ax [a0]) []).p 2 v1).p 3 v3).p 4 (ab 0)).p 5 (ab 0)).p 6 v5).p 7 v7).p 18 a0).p 19 v9).p 20 v10).p 21 v11).p 22 v12).p 4 (ab 0)).p 5 (ab 10)) h14)))))
(bh (w13 J h.length [1,1,1,1] ((((((((((RG.mk (ax [a0]) []).p 2 v1).p 3 v3).p 4 (ab 0)).p 5 (ab 0)).p 6 v5).p 7 v7).p 18 a0).p 19 v9).p 20 v10) h8 [] K))) := aT pok13 ct13 (by kernel_rfl)
theorem g13 (hJ : Closed prog main J) {a0 : Value} (hs : aD h → W prog J 119 h.length 13 (codeOf f13) (RG.mk (ax [a0]) []) h (aq prog [.cell 2 23,.cell 3 25,.tmp 4,.tmp 5] h.length K)) : Good prog J 13 [a0] h K :=
 az hJ mixed at13 body13 (by kernel_rfl) (Nat.le_of_ble_eq_true rfl) hs
theorem s13_1 {f : RG} : w13 J n0 [1,1,1,1] f h [] K =
(Good prog J 35 [(f.r 0),(Value.int .u8 10)] h fun v1 h2 =>
bh (w13 J n0 yp6 (((f.p 23 (f.r 0)).p 24 v1).p 8 v1) h2 [] K)) := sub_eq pok13 ct13 (by kernel_rfl)
theorem s13_2 {f : RG} : w13 J n0 yp6 f h [] K =
((((4 * 1 : Nat) ≤ 16777216 ∧ (4 : Nat) ≤ 16777216 ∧ List.length [(Value.string { data := #[] })] = 1) ∧ aH (aV [(Value.string { data := #[] })] 4) [(0,1,(Value.string { data := #[103,114,97,115,115] })),(1,1,(Value.string { data := #[111,102] })),(2,1,(Value.string { data := #[103,114,111,119,115] })),(3,1,(Value.string { data := #[116,111] }))] fun c1 =>
aX 4 c1 h fun v2 h3 =>
(((2 * 1 : Nat) ≤ 16777216 ∧ (2 : Nat) ≤ 16777216 ∧ List.length [(Value.string { data := #[] })] = 1) ∧ aH (aV [(Value.string { data := #[] })] 2) [(0,1,(Value.string { data := #[98,101,108,111,119] })),(1,1,(Value.string { data := #[115,108,101,101,112,115] }))] fun c4 =>
aX 2 c4 h3 fun v5 h6 =>
(((3 * 1 : Nat) ≤ 16777216 ∧ (3 : Nat) ≤ 16777216 ∧ List.length [(Value.string { data := #[] })] = 1) ∧ aH (aV [(Value.string { data := #[] })] 3) [(0,1,(Value.string { data := #[115,107,121] })),(1,1,(Value.string { data := #[100,114,121] })),(2,1,(Value.string { data := #[119,101,116] }))] fun c7 =>
aX 3 c7 h6 fun v8 h9 =>
(((3 * 1 : Nat) ≤ 16777216 ∧ (3 : Nat) ≤ 16777216 ∧ List.length [(Value.slice none 0 0)] = 1) ∧ aH (aV [(Value.slice none 0 0)] 3) [(0,1,v2),(1,1,v5),(2,1,v8)] fun c10 =>
aX 3 c10 h9 fun v11 h12 =>
bh (w13 J n0 yp7 (((((f.p 25 v2).p 26 v5).p 27 v8).p 28 v11).p 9 v11) h12 [] K)))))) := sub_eq pok13 ct13 (by kernel_rfl)
theorem s13_3 {f : RG} : w13 J n0 yp7 f h [] K =
(Sem J 119 n0 13 (aw yp27 (codeOf f13)) ((f.p 10 (Value.slice none 0 0)).p 11 (ab 0)) h (aA pl13 prog J 119 n0 13 ct13 yp27 (codeOf f13) [] (aq prog [.cell 2 23,.cell 3 25,.tmp 4,.tmp 5] n0 K))) := sub_eq pok13 ct13 (by kernel_rfl)
theorem s13_4 {f : RG} {nx0 : RG → List af → Prop} : W prog J 119 n0 13 (aw yp10 (codeOf f13)) f h (bc nx0 (aA pl13 prog J 119 n0 13 ct13 yp27 (codeOf f13) [] (aq prog [.cell 2 23,.cell 3 25,.tmp 4,.tmp 5] n0 K))) =
(aj prog .lss 3 (f.r 11) (ab 3) fun v1 =>
cnd v1
(b0 (f.r 8) fun v2 =>
aj prog .sub 3 v2 (ab 1) fun v3 =>
aj prog .geq 3 (f.r 11) v3 fun v4 =>
cnd v4
((∃ B,ai true 6 (f.r 6) h fun v5 =>
aR (some B) (au (f.r 6)) ∧ (ai true 3 (f.r 7) h fun v6 =>
aR (some B) (au (f.r 7)) ∧ (aj prog .add 3 (f.r 11) (ab 1) fun v7 =>
aB 6 (f.r 2) v5 h fun h8 =>
aG (some B) h h8 ∧ (aB 3 (f.r 3) v6 h8 fun h9 =>
aq prog [.cell 2 23,.cell 3 25,.tmp 4,.tmp 5] n0 K .ret (((((((((((((f.p 29 (f.r 11)).p 30 v1).p 33 (f.r 11)).p 34 (f.r 8)).p 35 v2).p 36 v3).p 37 v4).p 38 v5).p 39 v6).p 40 (f.r 11)).p 41 v7).p 4 v7).p 5 (ab 2)) h9)))))
(bh (w13 J n0 yp28 (((((((f.p 29 (f.r 11)).p 30 v1).p 33 (f.r 11)).p 34 (f.r 8)).p 35 v2).p 36 v3).p 37 v4) h [nx0] K)))
(b0 (f.r 8) fun v10 =>
aj prog .neq 3 v10 (ab 4) fun v11 =>
cnd v11
(bh (w13 J n0 yp20 ((((((((((((f.p 29 (f.r 11)).p 30 v1).p 63 (f.r 8)).p 64 v10).p 65 v11).p 66 v11).p 66 (Value.bool true)).p 67 undef).p 68 undef).p 69 undef).p 70 undef).p 71 (Value.bool true)) h [] K))
(bT 1 (f.r 8) (ab 3) fun v12 =>
ai false 1 v12 h fun v13 =>
aj prog .neq 9 v13 (Value.string { data := #[] }) fun v14 =>
bh (w13 J n0 yp20 ((((((((((((f.p 29 (f.r 11)).p 30 v1).p 63 (f.r 8)).p 64 v10).p 65 v11).p 66 v11).p 66 (Value.bool false)).p 67 (f.r 8)).p 68 v12).p 69 v13).p 70 v14).p 71 v14) h [] K)))) := sub_eq pok13 ct13 (by kernel_rfl)
theorem l13_4 (hJ : Closed prog main J) {S : Type} (μ : S → Nat) (I : S → RG → List af → Prop) (hI : ∀ s f h,I s f h → aD h → n0 ≤ h.length → W prog J 119 n0 13 (aw yp10 (codeOf f13)) f h (bc (Nx n0 μ I s) (aA pl13 prog J 119 n0 13 ct13 yp27 (codeOf f13) [] (aq prog [.cell 2 23,.cell 3 25,.tmp 4,.tmp 5] n0 K))))
 {s : S} {f : RG} (hi : dJ n0 I s f h) : Sem J 119 n0 13 (aw yp27 (codeOf f13)) f h (aA pl13 prog J 119 n0 13 ct13 yp27 (codeOf f13) [] (aq prog [.cell 2 23,.cell 3 25,.tmp 4,.tmp 5] n0 K)) :=
 bn hJ mixed (b := aw yp10 (codeOf f13)) (by kernel_rfl) μ I hI hi
theorem s13_5 {f : RG} {nx0 : RG → List af → Prop} : w13 J n0 yp28 f h [nx0] K =
(bT 1 (f.r 8) (f.r 11) fun v1 =>
ai false 1 v1 h fun v2 =>
bT 1 (f.r 9) (f.r 11) fun v3 =>
ai false 1 v3 h fun v4 =>
Good prog J 36 [v2,v4] h fun v5 h6 =>
bL v5 0 fun v7 =>
bL v5 1 fun v8 =>
aUn .not v8 fun v9 =>
cnd v9
((∃ B,ai true 6 (f.r 6) h6 fun v10 =>
aR (some B) (au (f.r 6)) ∧ (ai true 3 (f.r 7) h6 fun v11 =>
aR (some B) (au (f.r 7)) ∧ (aj prog .add 3 (f.r 11) (ab 1) fun v12 =>
aB 6 (f.r 2) v10 h6 fun h13 =>
aG (some B) h6 h13 ∧ (aB 3 (f.r 3) v11 h13 fun h14 =>
aq prog [.cell 2 23,.cell 3 25,.tmp 4,.tmp 5] n0 K .ret ((((((((((((((((((((((f.p 43 (f.r 8)).p 44 (f.r 11)).p 45 v1).p 46 v2).p 47 (f.r 9)).p 48 (f.r 11)).p 49 v3).p 50 v4).p 51 v5).p 42 v5).p 52 v7).p 53 v8).p 12 v7).p 13 v8).p 54 v8).p 55 v9).p 56 v10).p 57 v11).p 58 (f.r 11)).p 59 v12).p 4 v12).p 5 (ab 2)) h14)))))
(bh (w13 J n0 yp40 ((((((((((((((((f.p 43 (f.r 8)).p 44 (f.r 11)).p 45 v1).p 46 v2).p 47 (f.r 9)).p 48 (f.r 11)).p 49 v3).p 50 v4).p 51 v5).p 42 v5).p 52 v7).p 53 v8).p 12 v7).p 13 v8).p 54 v8).p 55 v9) h6 [nx0] K))) := sub_eq pok13 ct13 (by kernel_rfl)
theorem s13_6 {f : RG} : w13 J n0 yp20 f h [] K =
(cnd (f.r 71)
((∃ B,ai true 6 (f.r 6) h fun v1 =>
aR (some B) (au (f.r 6)) ∧ (ai true 3 (f.r 7) h fun v2 =>
aR (some B) (au (f.r 7)) ∧ (aB 6 (f.r 2) v1 h fun h3 =>
aG (some B) h h3 ∧ (aB 3 (f.r 3) v2 h3 fun h4 =>
aq prog [.cell 2 23,.cell 3 25,.tmp 4,.tmp 5] n0 K .ret ((((f.p 72 v1).p 73 v2).p 4 (ab 4)).p 5 (ab 2)) h4)))))
(bh (w13 J n0 yp4 f h [] K))) := sub_eq pok13 ct13 (by kernel_rfl)
theorem s13_7 {f : RG} {nx0 : RG → List af → Prop} : w13 J n0 yp40 f h [nx0] K =
(((List.length [(ab 0)] = 1 ∧ 0 < (1 : Nat) ∧ 0 < (8 : Nat) ∧ (8 : Nat) ≤ 1024) ∧ aApp 1 (f.r 10) (f.r 12) h fun v1 h2 =>
aj prog .add 3 (f.r 11) (ab 1) fun v3 =>
nx0 (((((((f.p 60 (f.r 10)).p 61 (f.r 12)).p 62 v1).p 10 v1).p 31 (f.r 11)).p 32 v3).p 11 v3) h2)) := sub_eq pok13 ct13 (by kernel_rfl)
theorem s13_8 {f : RG} : w13 J n0 yp4 f h [] K =
((∃ B,bT 1 (f.r 10) (ab 0) fun v1 =>
ai false 1 v1 h fun v2 =>
aR (some B) (au v1) ∧ (bT 1 (f.r 10) (ab 1) fun v3 =>
ai false 1 v3 h fun v4 =>
aR (some B) (au v3) ∧ (bT 1 (f.r 10) (ab 2) fun v5 =>
ai false 1 v5 h fun v6 =>
aR (some B) (au v5) ∧ (bT 1 (f.r 10) (ab 3) fun v7 =>
ai false 1 v7 h fun v8 =>
aR (some B) (au v7) ∧ (bT 1 (f.r 10) (ab 4) fun v9 =>
ai false 1 v9 h fun v10 =>
aR (some B) (au v9) ∧ (bT 1 (f.r 10) (ab 5) fun v11 =>
ai false 1 v11 h fun v12 =>
aR (some B) (au v11) ∧ (aH [(ab 0),(ab 0),(ab 0),(ab 0),(ab 0),(ab 0)] [(0,1,v2),(1,1,v4),(2,1,v6),(3,1,v8),(4,1,v10),(5,1,v12)] fun c13 =>
bo [(ab 0),(ab 0),(ab 0),(ab 0),(ab 0),(ab 0)] h fun v14 h15 =>
aG (some B) h h15 ∧ (aB 6 v14 (Value.agg ⟨c13⟩) h15 fun h16 =>
bh (w13 J n0 yp29 ((((((((((((((((((((f.p 74 (f.r 10)).p 75 v1).p 76 v2).p 77 (f.r 10)).p 78 v3).p 79 v4).p 80 (f.r 10)).p 81 v5).p 82 v6).p 83 (f.r 10)).p 84 v7).p 85 v8).p 86 (f.r 10)).p 87 v9).p 88 v10).p 89 (f.r 10)).p 90 v11).p 91 v12).p 92 (Value.agg ⟨c13⟩)).p 14 v14) h16 [] K)))))))))) := sub_eq pok13 ct13 (by kernel_rfl)
theorem s13_9 {f : RG} : w13 J n0 yp29 f h [] K =
((∃ B,bT 1 (f.r 10) (ab 6) fun v1 =>
ai false 1 v1 h fun v2 =>
aR (some B) (au v1) ∧ (bT 1 (f.r 10) (ab 7) fun v3 =>
ai false 1 v3 h fun v4 =>
aR (some B) (au v3) ∧ (bT 1 (f.r 10) (ab 8) fun v5 =>
ai false 1 v5 h fun v6 =>
aR (some B) (au v5) ∧ (aH [(ab 0),(ab 0),(ab 0)] [(0,1,v2),(1,1,v4),(2,1,v6)] fun c7 =>
bo [(ab 0),(ab 0),(ab 0)] h fun v8 h9 =>
aG (some B) h h9 ∧ (aB 3 v8 (Value.agg ⟨c7⟩) h9 fun h10 =>
bh (w13 J n0 yp30 (((((((((((f.p 93 (f.r 10)).p 94 v1).p 95 v2).p 96 (f.r 10)).p 97 v3).p 98 v4).p 99 (f.r 10)).p 100 v5).p 101 v6).p 102 (Value.agg ⟨c7⟩)).p 15 v8) h10 [] K))))))) := sub_eq pok13 ct13 (by kernel_rfl)
theorem s13_10 {f : RG} : w13 J n0 yp30 f h [] K =
(ai true 6 (f.r 14) h fun v1 =>
Good prog J 30 [v1] h fun v2 h3 =>
aj prog .neq 35 v2 (ab 0) fun v4 =>
cnd v4
((∃ B,ai true 6 (f.r 6) h3 fun v5 =>
aR (some B) (au (f.r 6)) ∧ (ai true 3 (f.r 7) h3 fun v6 =>
aR (some B) (au (f.r 7)) ∧ (aB 6 (f.r 2) v5 h3 fun h7 =>
aG (some B) h3 h7 ∧ (aB 3 (f.r 3) v6 h7 fun h8 =>
aq prog [.cell 2 23,.cell 3 25,.tmp 4,.tmp 5] n0 K .ret ((((((((((f.p 103 v1).p 104 v2).p 16 v2).p 105 v2).p 106 v4).p 107 v5).p 108 v6).p 109 v2).p 4 (ab 0)).p 5 v2) h8)))))
(bh (w13 J n0 yp31 (((((f.p 103 v1).p 104 v2).p 16 v2).p 105 v2).p 106 v4) h3 [] K))) := sub_eq pok13 ct13 (by kernel_rfl)
theorem s13_11 {f : RG} : w13 J n0 yp31 f h [] K =
(ai true 3 (f.r 15) h fun v1 =>
Good prog J 31 [v1] h fun v2 h3 =>
aj prog .neq 35 v2 (ab 0) fun v4 =>
cnd v4
((∃ B,ai true 6 (f.r 6) h3 fun v5 =>
aR (some B) (au (f.r 6)) ∧ (ai true 3 (f.r 7) h3 fun v6 =>
aR (some B) (au (f.r 7)) ∧ (aB 6 (f.r 2) v5 h3 fun h7 =>
aG (some B) h3 h7 ∧ (aB 3 (f.r 3) v6 h7 fun h8 =>
aq prog [.cell 2 23,.cell 3 25,.tmp 4,.tmp 5] n0 K .ret ((((((((((f.p 110 v1).p 111 v2).p 17 v2).p 112 v2).p 113 v4).p 114 v5).p 115 v6).p 116 v2).p 4 (ab 0)).p 5 v2) h8)))))
(bh (w13 J n0 yp32 (((((f.p 110 v1).p 111 v2).p 17 v2).p 112 v2).p 113 v4) h3 [] K))) := sub_eq pok13 ct13 (by kernel_rfl)
theorem s13_12 {f : RG} : w13 J n0 yp32 f h [] K =
((∃ B,ai true 6 (f.r 14) h fun v1 =>
aR (some B) (au (f.r 14)) ∧ (ai true 3 (f.r 15) h fun v2 =>
aR (some B) (au (f.r 15)) ∧ (aB 6 (f.r 2) v1 h fun h3 =>
aG (some B) h h3 ∧ (aB 3 (f.r 3) v2 h3 fun h4 =>
aq prog [.cell 2 23,.cell 3 25,.tmp 4,.tmp 5] n0 K .ret ((((f.p 117 v1).p 118 v2).p 4 (ab 0)).p 5 (ab 0)) h4))))) := sub_eq pok13 ct13 (by kernel_rfl)
end
end Go.Proofs.YtlhanfcgdfjhjaaGreatDoor
namespace Go.Proofs.YtlhanfcgdfjhjaaGreatDoor
open Go.Conc Go.Proofs.Tryz
set_option maxRecDepth 100000
section
variable {main : Bool} {J : JT} {H H' H0 : List af} {K : Value → List af → Prop} {KV : Value → Prop} {F : RG} {n0 : Nat} {s : List UInt8} {b1 b3 b5 b7 : Nat}
theorem ownX_appN {len m : Nat} {cs ys : List Value} {v y : Value} {o : Option Nat} (ho : OwnX H 1 cs len v o) (hm : 0 < m) (hl : len + m < 100000) (hy : Sli H y 1 m ys)
  (hk : ∀ v' H' p,p = H.length → OwnX H' 1 (cs ++ ys) (len + m) v' (some p) → ag o.toList H H' → K v' H') : aApp 1 v y H K := by
 have hrm : room = 1073741824 := rfl
 obtain ⟨_,_,_,⟨yl,yk⟩,_⟩ := id hy
 obtain ⟨hcl,hck,⟨rfl,rfl,rfl⟩ | ⟨i,c,sz,rfl,rfl,hi,hc⟩⟩ := ho
 ·have : cs = [] := List.length_eq_zero_iff.1 (by omega)
  subst this
  refine app_nil (by decide) hy (by omega) (fun h => absurd h (by omega)) fun _ => ?_
  refine hk _ _ H.length rfl ⟨by simpa using yl,by simpa using yk,.inr ⟨H.length,fz,1,rfl,by simp,by simp,.inl ⟨rfl,rfl⟩⟩⟩ ag.refl.app
 ·have hkk : kn (cs ++ ys) = true := by
   unfold kn at hck yk ⊢
   rw [List.all_append,hck,yk]
   rfl
  have ht : cs.take (len * 1) = cs := List.take_of_length_le (by omega)
  rcases hc with ⟨rfl,rfl⟩ | hc
  ·refine app_own hi (by omega) (by rw [ht]; exact hck) (by decide) hy (by omega) ?_
   rw [ht]
   refine hk _ _ H.length rfl ⟨by simp; omega,hkk,.inr ⟨H.length,fz,1,rfl,rfl,?_,.inl ⟨rfl,rfl⟩⟩⟩ ?_
   ·rw [List.getElem?_append_right (by simp)]
    simp
   ·exact (ag.refl.set (.inl (by simp))).app
  ·refine app_copy (o := 0) hi (by omega) (by rw [List.drop_zero,ht]; exact hck) (by omega) (by decide) hy (by omega) ?_
   have ht2 : (cs.drop 0).take (len * 1) = cs := by simpa using ht
   rw [ht2]
   exact hk _ _ H.length rfl ⟨by simp; omega,hkk,.inr ⟨H.length,fz,1,rfl,rfl,by simp,.inl ⟨rfl,rfl⟩⟩⟩ ag.refl.app
structure RdD (H : List af) (b1 b3 b5 b7 : Nat) (F : RG) (H' : List af) : Prop where
 lo : H.length ≤ b1
 o13 : b1 < b3
 o35 : b3 < b5
 o57 : b5 < b7
 ds : F.ds = []
 r2 : F.r 2 = ptr b1 0
 r3 : F.r 3 = ptr b3 0
 r6 : F.r 6 = ptr b5 0
 r7 : F.r 7 = ptr b7 0
 S : ag [] H H'
 c1 : H'[b1]? = some (.cells pasN.cells true 0)
 c3 : H'[b3]? = some (.cells skyN.cells true 0)
 c5 : H'[b5]? = some (.cells pasN.cells true 0)
 c7 : H'[b7]? = some (.cells skyN.cells true 0)
theorem RdD.to {G : RG} {H2 : List af} (M : RdD H b1 b3 b5 b7 F H') (e : G.ds = F.ds) (e2 : G.r 2 = F.r 2) (e3 : G.r 3 = F.r 3) (e6 : G.r 6 = F.r 6) (e7 : G.r 7 = F.r 7) (S : ag [] H' H2) : RdD H b1 b3 b5 b7 G H2 :=
 ⟨M.lo,M.o13,M.o35,M.o57,e.trans M.ds,e2.trans M.r2,e3.trans M.r3,e6.trans M.r6,e7.trans M.r7,M.S.trans S,S.get M.c1 (by simp),S.get M.c3 (by simp),S.get M.c5 (by simp),S.get M.c7 (by simp)⟩
theorem RdD.keepO {H2 : List af} {X : List Nat} (M : RdD H b1 b3 b5 b7 F H') (hX : ∀ x ∈ X,b7 < x) (S : ag X H' H2) : RdD H b1 b3 b5 b7 F H2 := by
 have := M.lo
 have := M.o13
 have := M.o35
 have := M.o57
 have no : ∀ {x : Nat},x ≤ b7 → x ∉ X := fun h hm => by have := hX _ hm; omega
 exact ⟨M.lo,M.o13,M.o35,M.o57,M.ds,M.r2,M.r3,M.r6,M.r7,M.S.bq S fun y hy => .inr (by have := hX y hy; omega),S.get M.c1 (no (by omega)),S.get M.c3 (no (by omega)),S.get M.c5 (no (by omega)),S.get M.c7 (no (by omega))⟩
theorem errD (M : RdD H b1 b3 b5 b7 F H') {X : Value → Value → List af → Prop} (hX : ∀ H2,ag [] H H2 → H2[b1]? = some (.cells pasN.cells true 0) → H2[b3]? = some (.cells skyN.cells true 0) → X (.agg ⟨pasN.cells⟩) (.agg ⟨skyN.cells⟩) H2) :
  ∃ B,ai true 6 (ptr b5 0) H' fun v1 => aR (some B) (au (ptr b5 0)) ∧ (ai true 3 (ptr b7 0) H' fun v2 => aR (some B) (au (ptr b7 0)) ∧ (aB 6 (ptr b1 0) v1 H' fun h3 => aG (some B) H' h3 ∧ (aB 3 (ptr b3 0) v2 h3 fun h4 => X v1 v2 h4))) := by
 have := M.lo
 have := M.o13
 have := M.o35
 have := M.o57
 have l5 := ah M.c5
 have l7 := ah M.c7
 refine ⟨[b5,b7],ar (c := pasN.cells) M.c5 (by decide) rfl rfl ⟨by simp [aR,au],ar (c := skyN.cells) M.c7 (by decide) rfl rfl ⟨by simp [aR,au],da (c := pasN.cells) M.c1 rfl rfl rfl fun H2 S2 c2 _ => ⟨fun x hx => ?_,da (c := skyN.cells) (S2.get M.c3 (by simp; omega)) rfl rfl rfl fun H3 S3 c3 _ => hX H3 ((M.S.bq S2 (by simp; omega)).bq S3 (by simp; omega)) (S3.get c2 (by simp; omega)) c3⟩⟩⟩⟩
 simp only [List.mem_cons,List.not_mem_nil,or_false] at hx
 rcases hx with rfl | rfl
 ·exact S2.2 _ l5 (by simp; omega)
 ·exact S2.2 _ l7 (by simp; omega)
theorem errD1 (M : RdD H b1 b3 b5 b7 F H') {i : Nat} (hi : i ≤ 100) {X : Value → Value → Value → List af → Prop} (hX : ∀ H2,ag [] H H2 → H2[b1]? = some (.cells pasN.cells true 0) → H2[b3]? = some (.cells skyN.cells true 0) → X (.agg ⟨pasN.cells⟩) (.agg ⟨skyN.cells⟩) (ab ((i + 1 : Nat) : Int)) H2) :
  ∃ B,ai true 6 (ptr b5 0) H' fun v1 => aR (some B) (au (ptr b5 0)) ∧ (ai true 3 (ptr b7 0) H' fun v2 => aR (some B) (au (ptr b7 0)) ∧ (aj prog .add 3 (ab (i : Nat)) (ab 1) fun v => aB 6 (ptr b1 0) v1 H' fun h3 => aG (some B) H' h3 ∧ (aB 3 (ptr b3 0) v2 h3 fun h4 => X v1 v2 v h4))) := by
 have := M.lo
 have := M.o13
 have := M.o35
 have := M.o57
 have l5 := ah M.c5
 have l7 := ah M.c7
 refine ⟨[b5,b7],ar (c := pasN.cells) M.c5 (by decide) rfl rfl ⟨by simp [aR,au],ar (c := skyN.cells) M.c7 (by decide) rfl rfl ⟨by simp [aR,au],ck (by omega) (da (c := pasN.cells) M.c1 rfl rfl rfl fun H2 S2 c2 _ => ⟨fun x hx => ?_,da (c := skyN.cells) (S2.get M.c3 (by simp; omega)) rfl rfl rfl fun H3 S3 c3 _ => hX H3 ((M.S.bq S2 (by simp; omega)).bq S3 (by simp; omega)) (S3.get c2 (by simp; omega)) c3⟩)⟩⟩⟩
 simp only [List.mem_cons,List.not_mem_nil,or_false] at hx
 rcases hx with rfl | rfl
 ·exact S2.2 _ l5 (by simp; omega)
 ·exact S2.2 _ l7 (by simp; omega)
def NamesG (H : List af) (nmv : Value) : Prop := ∃ nvs : List Value,Sli H nmv 1 3 nvs ∧ ∀ i x,nvs[i]? = some x → Sli H x 1 (gN i).length ((gN i).map ay)
theorem NamesG.keep {nmv : Value} (h : NamesG H nmv) (S : ag [] H H') : NamesG H' nmv := by
 obtain ⟨nvs,h1,h2⟩ := h
 exact ⟨nvs,S.sli h1 (by simp),fun i x hx => S.sli (h2 i x hx) (by simp)⟩
structure NumD (Hb : List af) (xs : List Int) (F : RG) (H' : List af) : Prop where
 own : ∃ v o,F.r 10 = v ∧ OwnX H' 1 (xs.map ab) xs.length v o ∧ ∀ k,o = some k → Hb.length ≤ k
def DrI (s : List UInt8) (H Hb : List af) (b1 b3 b5 b7 : Nat) (lv nmv : Value) (x : Nat × List Int) (F : RG) (H' : List af) : Prop :=
 x.1 ≤ 3 ∧ RdD H b1 b3 b5 b7 F H' ∧ F.r 8 = lv ∧ F.r 9 = nmv ∧ F.r 11 = ab (x.1 : Nat) ∧ NumD Hb x.2 F H' ∧ ag [] Hb H' ∧ linesG x.1 (aE 10 s) = some x.2 ∧ x.2.length = offG x.1
variable {lv nmv : Value} {Hb : List af} {i : Nat} {xs : List Int}
theorem drd_12 (M : RdD H b1 b3 b5 b7 F H') {bx bz : Nat} {p : Pas} {y : aU} (h7 : b7 < bx) (hxz : bx < bz) (r14 : F.r 14 = ptr bx 0) (r15 : F.r 15 = ptr bz 0) (cx : H'[bx]? = some (.cells p.cells true 0)) (cz : H'[bz]? = some (.cells y.cells true 0))
  (hK : ∀ H',ag [] H H' → K (.tuple ⟨[.agg ⟨p.cells⟩,.agg ⟨y.cells⟩,ab 0,ab 0]⟩) H') :
  w13 J n0 yp32 F H' [] K := by
 rw [s13_12]
 simp only [M.r2,M.r3,r14,r15]
 have := M.lo
 have := M.o13
 have := M.o35
 have := M.o57
 have lx := ah cx
 have lz := ah cz
 refine ⟨[bx,bz],ar (c := p.cells) cx (by simp [Pas.cells]) rfl rfl ⟨by simp [aR,au],ar (c := y.cells) cz (by simp [aU.cells]) rfl rfl ⟨by simp [aR,au],da (c := p.cells) M.c1 rfl rfl rfl fun H2 S2 c2 _ => ⟨fun x hx => ?_,da (c := y.cells) (S2.get M.c3 (by simp; omega)) rfl rfl rfl fun H3 S3 c3 _ => ?_⟩⟩⟩⟩
 ·simp only [List.mem_cons,List.not_mem_nil,or_false] at hx
  rcases hx with rfl | rfl
  ·exact S2.2 _ lx (by simp; omega)
  ·exact S2.2 _ lz (by simp; omega)
 ·exact retG (p := p) (y := y) (a := 0) (e := 0) M.ds M.r2 M.r3 rfl rfl (S3.get c2 (by simp; omega)) c3 (hK H3 ((M.S.bq S2 (by simp; omega)).bq S3 (by simp; omega)))
theorem badD (hK : ∀ H',ag [] H H' → K (dT s) H') {a e : Int} {H2 : List af} (hr : ca s = (a,e)) (he : e ≠ 0) (ds : F.ds = []) (r2 : F.r 2 = ptr b1 0) (r3 : F.r 3 = ptr b3 0) (r4 : F.r 4 = ab a) (r5 : F.r 5 = ab e) (S : ag [] H H2) (c1 : H2[b1]? = some (.cells pasN.cells true 0)) (c3 : H2[b3]? = some (.cells skyN.cells true 0)) :
  aq prog [.cell 2 23,.cell 3 25,.tmp 4,.tmp 5] n0 K .ret F H2 := by
 refine retG (p := pasN) (y := skyN) ds r2 r3 r4 r5 c1 c3 ?_
 rw [← readGV_bad hr he]
 exact hK H2 S
theorem drd_11 (hJ : Closed prog main J) (hK : ∀ H',ag [] H H' → K (dT s) H') (M : RdD H b1 b3 b5 b7 F H') {bx bz : Nat} {p : Pas} {y : aU} (h7 : b7 < bx) (hxz : bx < bz) (r14 : F.r 14 = ptr bx 0) (r15 : F.r 15 = ptr bz 0) (cx : H'[bx]? = some (.cells p.cells true 0)) (cz : H'[bz]? = some (.cells y.cells true 0))
  (hp0 : bR p = 0) (hr : ca s = (0,cQ (bR p) (cd y))) (hg : cQ (bR p) (cd y) = 0 → dT s = .tuple ⟨[.agg ⟨p.cells⟩,.agg ⟨y.cells⟩,ab 0,ab 0]⟩) :
  w13 J n0 yp31 F H' [] K := by
 rw [s13_11]
 simp only [M.r2,M.r3,M.r6,M.r7,r15]
 have hf : cQ (bR p) (cd y) = cd y := if_neg (by omega)
 rw [hf] at hr hg
 refine ar (c := y.cells) cz (by simp [aU.cells]) rfl rfl (good31 hJ (neqI (ba (fun he => ?_) fun he => hold.2 ?_)))
 ·exact errD M fun H2 S x1 x3 => badD (a := 0) (e := cd y) hK hr he M.ds M.r2 M.r3 rfl rfl S x1 x3
 ·exact drd_12 (M.to rfl rfl rfl rfl rfl ag.refl) h7 hxz r14 r15 cx cz fun H2 S => by
   rw [← hg (Decidable.not_not.1 he)]
   exact hK H2 S
theorem drd_10 (hJ : Closed prog main J) (hK : ∀ H',ag [] H H' → K (dT s) H') (M : RdD H b1 b3 b5 b7 F H') {bx bz : Nat} {p : Pas} {y : aU} (h7 : b7 < bx) (hxz : bx < bz) (r14 : F.r 14 = ptr bx 0) (r15 : F.r 15 = ptr bz 0) (cx : H'[bx]? = some (.cells p.cells true 0)) (cz : H'[bz]? = some (.cells y.cells true 0))
  (hr : ca s = (0,cQ (bR p) (cd y))) (hg : cQ (bR p) (cd y) = 0 → dT s = .tuple ⟨[.agg ⟨p.cells⟩,.agg ⟨y.cells⟩,ab 0,ab 0]⟩) :
  w13 J n0 yp30 F H' [] K := by
 rw [s13_10]
 simp only [M.r2,M.r3,M.r6,M.r7,r14]
 refine ar (c := p.cells) cx (by simp [Pas.cells]) rfl rfl (good30 hJ (neqI (ba (fun he => ?_) fun he => hold.2 ?_)))
 ·have hf : cQ (bR p) (cd y) = bR p := if_pos he
  rw [hf] at hr
  exact errD M fun H2 S x1 x3 => badD (a := 0) (e := bR p) hK hr he M.ds M.r2 M.r3 rfl rfl S x1 x3
 ·exact drd_11 hJ hK (M.to rfl rfl rfl rfl rfl ag.refl) h7 hxz r14 r15 cx cz (Decidable.not_not.1 he) hr hg
def Nine (H : List af) (bb oo : Nat) (l : List Value) : Prop := ∃ cs wr sz,H[bb]? = some (.cells cs wr sz) ∧ (cs.drop oo).take 9 = l ∧ kn l = true
theorem Nine.get {bb oo cc k : Nat} {l : List Value} {x : Value} {KV : Value → Value → Prop} (h : Nine H bb oo l) (hk : k < 9) (hx : l[k]? = some x) (hkv : KV (ptr bb (oo + k)) x) :
  bT 1 (.slice (some ⟨bb,oo,none⟩) 9 cc) (ab (k : Int)) fun p => ai false 1 p H (KV p) := by
 obtain ⟨cs,wr,sz,hb,ht,hkn⟩ := h
 refine idxI ⟨by omega,by omega⟩ ?_
 rw [Int.toNat_natCast,Nat.mul_one]
 have hkx : kn1 x = true := by
  unfold kn at hkn
  rw [List.all_eq_true] at hkn
  exact hkn x (List.mem_of_getElem? hx)
 refine ldI (v := x) hb ?_ hkx hkv
 rw [← ht,List.getElem?_take,if_pos hk,List.getElem?_drop] at hx
 exact hx
theorem Nine.keep {bb oo : Nat} {l : List Value} (h : Nine H bb oo l) (S : ag [] H H') : Nine H' bb oo l := by
 obtain ⟨cs,wr,sz,hb,ht,hkn⟩ := h
 exact ⟨cs,wr,sz,S.get hb (by simp),ht,hkn⟩
theorem Nine.lt {bb oo : Nat} {l : List Value} (h : Nine H bb oo l) : bb < H.length := by
 obtain ⟨cs,wr,sz,hb,_⟩ := h
 exact ah hb
theorem drd_9 (hJ : Closed prog main J) (hK : ∀ H',ag [] H H' → K (dT s) H') (M : RdD H b1 b3 b5 b7 F H') {bx bb oo cc : Nat} {p : Pas} {x0 x1 x2 x3 x4 x5 x6 x7 x8 : Int} (h7 : b7 < bx) (r14 : F.r 14 = ptr bx 0) (cx : H'[bx]? = some (.cells p.cells true 0))
  (r10 : F.r 10 = .slice (some ⟨bb,oo,none⟩) 9 cc) (N : Nine H' bb oo ([x0,x1,x2,x3,x4,x5,x6,x7,x8].map ab))
  (hr : ca s = (0,cQ (bR p) (cd ⟨x6,x7,x8⟩))) (hg : cQ (bR p) (cd ⟨x6,x7,x8⟩) = 0 → dT s = .tuple ⟨[.agg ⟨p.cells⟩,.agg ⟨(⟨x6,x7,x8⟩ : aU).cells⟩,ab 0,ab 0]⟩) :
  w13 J n0 yp29 F H' [] K := by
 rw [s13_9]
 simp only [r10]
 have rd : ∀ {o : Nat},aR (some [bb]) (au (ptr bb o)) := by simp [aR,au]
 have lx := ah cx
 refine ⟨[bb],N.get (k := 6) (by decide) rfl ⟨rd,N.get (k := 7) (by decide) rfl ⟨rd,N.get (k := 8) (by decide) rfl ⟨rd,?_⟩⟩⟩⟩
 refine aK (l := [ab x6]) rfl rfl rfl (Nat.le_of_ble_eq_true rfl) (aK (l := [ab x7]) rfl rfl rfl (Nat.le_of_ble_eq_true rfl) (aK (l := [ab x8]) rfl rfl rfl (Nat.le_of_ble_eq_true rfl) (bu ?_)))
 refine qAl fun H2 bz e2 S2 c2 l2 => ⟨sb1Z S2 N.lt (by simp),da (c := (⟨x6,x7,x8⟩ : aU).cells) c2 rfl rfl rfl fun H3 S3 c3 l3 => hold.2 ?_⟩
 have S13 : ag [] H' H3 := S2.bq S3 (by simp; omega)
 exact drd_10 hJ hK (M.to rfl rfl rfl rfl rfl S13) h7 (by omega) r14 rfl (S13.get cx (by simp)) c3 hr hg
theorem drd_8 (hJ : Closed prog main J) (hK : ∀ H',ag [] H H' → K (dT s) H') (M : RdD H b1 b3 b5 b7 F H') (hl : s.length ≤ 120) (hr : readG s = .inr xs) (hl9 : xs.length = 9) {v : Value} (r10 : F.r 10 = v) (sl : Sli H' v 1 9 (xs.map ab)) :
  w13 J n0 yp4 F H' [] K := by
 have hgood := readGV_good hl hr
 have hre : ca s = (0,cQ (bR (pasX xs)) (cd (skyX xs))) := by
  unfold ca
  rw [if_neg (by omega),hr]
 obtain ⟨x0,x1,x2,x3,x4,x5,x6,x7,x8,rfl⟩ := list9 hl9
 obtain ⟨bs,cc,rfl,⟨_,hkn⟩,hbs⟩ := sl
 obtain ⟨bb,oo,rfl,N⟩ : ∃ bb oo,bs = some ⟨bb,oo,none⟩ ∧ Nine H' bb oo ([x0,x1,x2,x3,x4,x5,x6,x7,x8].map ab) := by
  rcases hbs with ⟨_,h⟩ | ⟨bb,oo,e,h | ⟨cs,wr,sz,hb,ht⟩⟩
  ·exact absurd h (by decide)
  ·exact absurd h (by decide)
  ·exact ⟨bb,oo,e,cs,wr,sz,hb,ht,hkn⟩
 rw [s13_8]
 simp only [r10]
 have rd : ∀ {o : Nat},aR (some [bb]) (au (ptr bb o)) := by simp [aR,au]
 refine ⟨[bb],N.get (k := 0) (by decide) rfl ⟨rd,N.get (k := 1) (by decide) rfl ⟨rd,N.get (k := 2) (by decide) rfl ⟨rd,N.get (k := 3) (by decide) rfl ⟨rd,N.get (k := 4) (by decide) rfl ⟨rd,N.get (k := 5) (by decide) rfl ⟨rd,?_⟩⟩⟩⟩⟩⟩⟩
 refine aK (l := [ab x0]) rfl rfl rfl (Nat.le_of_ble_eq_true rfl) (aK (l := [ab x1]) rfl rfl rfl (Nat.le_of_ble_eq_true rfl) (aK (l := [ab x2]) rfl rfl rfl (Nat.le_of_ble_eq_true rfl) (aK (l := [ab x3]) rfl rfl rfl (Nat.le_of_ble_eq_true rfl) (aK (l := [ab x4]) rfl rfl rfl (Nat.le_of_ble_eq_true rfl) (aK (l := [ab x5]) rfl rfl rfl (Nat.le_of_ble_eq_true rfl) (bu ?_))))))
 have l7 := ah M.c7
 refine qAl fun H2 bx e2 S2 c2 l2 => ⟨sb1Z S2 N.lt (by simp),da (c := (⟨x0,x1,x2,x3,x4,x5⟩ : Pas).cells) c2 rfl rfl rfl fun H3 S3 c3 l3 => hold.2 ?_⟩
 have S13 : ag [] H' H3 := S2.bq S3 (by simp; omega)
 exact drd_9 hJ hK (M.to rfl rfl rfl rfl rfl S13) (by omega) rfl c3 r10 (N.keep S13) hre hgood
theorem drd_6 (hJ : Closed prog main J) (hK : ∀ H',ag [] H H' → K (dT s) H') (M : RdD H b1 b3 b5 b7 F H') (hl : s.length ≤ 120) {q : Bool} (r71 : F.r 71 = .bool q) (h1 : q = true → readG s = .inl 4) (h2 : q = false → readG s = .inr xs) (hl9 : xs.length = 9) {v : Value} (r10 : F.r 10 = v) (sl : Sli H' v 1 9 (xs.map ab)) :
  w13 J n0 yp20 F H' [] K := by
 rw [s13_6]
 simp only [M.r2,M.r3,M.r6,M.r7,r71]
 cases q with
 | true =>
  have hre : ca s = (4,2) := by
   unfold ca
   rw [if_neg (by omega),h1 rfl]
   rfl
  exact bm.2 (errD M fun H2 S x1 x3 => badD (a := 4) (e := 2) hK hre (by decide) M.ds M.r2 M.r3 rfl rfl S x1 x3)
 | false => exact aP.2 (hold.2 (drd_8 hJ hK M hl (h2 rfl) hl9 r10 sl))
set_option maxHeartbeats 1000000 in
theorem good13 (hJ : Closed prog main J) (hK : ∀ H',ag [] H H' → K (dT s) H') : Good prog J 13 [ay s] H K := by
 refine g13 hJ fun ok => ?_
 rw [e13]
 refine qAl fun H1 b1 e1 S1 c1 l1 => qAl fun H2 b3 e3 S2 c3 l2 => qAl fun H3 b5 e5 S3 c5 l3 => qAl fun H4 b7 e7 S4 c7 l4 => ?_
 have S04 : ag [] H H4 := ((S1.trans S2).trans S3).trans S4
 have M4 : ∀ {F : RG},F.ds = [] → F.r 2 = ptr b1 0 → F.r 3 = ptr b3 0 → F.r 6 = ptr b5 0 → F.r 7 = ptr b7 0 → RdD H b1 b3 b5 b7 F H4 := fun d a2 a3 a6 a7 =>
  ⟨by omega,by omega,by omega,by omega,d,a2,a3,a6,a7,S04,S4.get (S3.get (S2.get c1 (by simp)) (by simp)) (by simp),S4.get (S3.get c3 (by simp)) (by simp),S4.get c5 (by simp),c7⟩
 refine di (gtrI (ba (fun h => ?_) fun h => hold.2 ?_))
 ·have hre : ca s = (0,10) := if_pos (by omega)
  exact errD (M4 (F := ((((RG.mk (ax []) []).p 2 (ptr b1 0)).p 3 (ptr b3 0)).p 6 (ptr b5 0)).p 7 (ptr b7 0)) rfl rfl rfl rfl rfl) fun H5 S x1 x3 => badD (a := 0) (e := 10) hK hre (by decide) rfl rfl rfl rfl rfl S x1 x3
 have hl : s.length ≤ 120 := by omega
 rw [s13_1]
 show Good prog J 35 [ay s,.int .u8 (10 : UInt8).toNat] _ _
 refine good35 (c := 10) hJ (by omega) fun lv H5 S5 slL => hold.2 ?_
 rw [s13_2]
 refine ⟨⟨by decide,by decide,rfl⟩,aK (l := [ay [103,114,97,115,115]]) rfl rfl rfl (Nat.le_of_ble_eq_true rfl) (aK (l := [ay [111,102]]) rfl rfl rfl (Nat.le_of_ble_eq_true rfl) (aK (l := [ay [103,114,111,119,115]]) rfl rfl rfl (Nat.le_of_ble_eq_true rfl) (aK (l := [ay [116,111]]) rfl rfl rfl (Nat.le_of_ble_eq_true rfl) (bu (du fun H6 p6 e6 S6 c6 l6 => ?_)))))⟩
 refine ⟨⟨by decide,by decide,rfl⟩,aK (l := [ay [98,101,108,111,119]]) rfl rfl rfl (Nat.le_of_ble_eq_true rfl) (aK (l := [ay [115,108,101,101,112,115]]) rfl rfl rfl (Nat.le_of_ble_eq_true rfl) (bu (du fun H7 p7 e7 S7 c7 l7 => ?_)))⟩
 refine ⟨⟨by decide,by decide,rfl⟩,aK (l := [ay [115,107,121]]) rfl rfl rfl (Nat.le_of_ble_eq_true rfl) (aK (l := [ay [100,114,121]]) rfl rfl rfl (Nat.le_of_ble_eq_true rfl) (aK (l := [ay [119,101,116]]) rfl rfl rfl (Nat.le_of_ble_eq_true rfl) (bu (du fun H8 p8 e8 S8 c8 l8 => ?_))))⟩
 have n0' : Sli H6 (.slice (some ⟨p6,0,none⟩) 4 4) 1 (gN 0).length ((gN 0).map ay) := sli_new (n := 4) (c := 4) c6 rfl rfl
 have n1' : Sli H7 (.slice (some ⟨p7,0,none⟩) 2 2) 1 (gN 1).length ((gN 1).map ay) := sli_new (n := 2) (c := 2) c7 rfl rfl
 have n2' : Sli H8 (.slice (some ⟨p8,0,none⟩) 3 3) 1 (gN 2).length ((gN 2).map ay) := sli_new (n := 3) (c := 3) c8 rfl rfl
 refine ⟨⟨by decide,by decide,rfl⟩,aK (l := [.slice (some ⟨p6,0,none⟩) 4 4]) rfl rfl rfl (Nat.le_of_ble_eq_true rfl) (aK (l := [.slice (some ⟨p7,0,none⟩) 2 2]) rfl rfl rfl (Nat.le_of_ble_eq_true rfl) (aK (l := [.slice (some ⟨p8,0,none⟩) 3 3]) rfl rfl rfl (Nat.le_of_ble_eq_true rfl) (bu (du fun Hb p9 e9 S9 c9 l9 => hold.2 ?_))))⟩
 have NM : NamesG Hb (.slice (some ⟨p9,0,none⟩) 3 3) := ⟨_,sli_new (n := 3) (c := 3) c9 rfl rfl,fun i x hx => by
  match i,hx with
  | 0,hx =>
   cases hx
   exact S9.sli (S8.sli (S7.sli n0' (by simp)) (by simp)) (by simp)
  | 1,hx =>
   cases hx
   exact S9.sli (S8.sli n1' (by simp)) (by simp)
  | 2,hx =>
   cases hx
   exact S9.sli n2' (by simp)⟩
 have S4b : ag [] H4 Hb := (((S5.trans S6).trans S7).trans S8).trans S9
 have slb : Sli Hb lv 1 (aE 10 s).length ((aE 10 s).map ay) := (((S6.trans S7).trans S8).trans S9).sli slL (by simp)
 generalize Value.slice (some ⟨p9,0,none⟩) 3 3 = nmv at *
 rw [s13_3]
 have hpl := parts_le 10 s
 refine l13_4 hJ (S := Nat × List Int) (fun x => 4 - x.1) (DrI s H Hb b1 b3 b5 b7 lv nmv) ?_ (s := (0,[]))
  (.inl ⟨Nat.zero_le _,(M4 (F := ((((RG.mk (ax []) []).p 2 (ptr b1 0)).p 3 (ptr b3 0)).p 6 (ptr b5 0)).p 7 (ptr b7 0)) rfl rfl rfl rfl rfl).to rfl rfl rfl rfl rfl S4b,rfl,rfl,rfl,⟨_,none,rfl,ownX_nil,fun k e => by cases e⟩,ag.refl,rfl,rfl⟩)
 rintro ⟨i,xs⟩ F H' ⟨hi,M,r8,r9,r11,⟨v,o,r10,O,hO⟩,S,hlin,hlen⟩ ok' hn'
 simp only at hi r11 r10 O hlin hlen
 rw [s13_4]
 simp only [M.r2,M.r3,M.r6,M.r7,r8,r11]
 have slP := S.sli slb (by simp)
 have hpos := List.length_pos_iff.2 (partsB_ne 10 s)
 have bad : ∀ {i : Nat} {F : RG} {H2 : List af},readG s = .inl (i + 1) → F.ds = [] → F.r 2 = ptr b1 0 → F.r 3 = ptr b3 0 → F.r 4 = ab ((i + 1 : Nat) : Int) → F.r 5 = ab 2 → ag [] H H2 → H2[b1]? = some (.cells pasN.cells true 0) → H2[b3]? = some (.cells skyN.cells true 0) → aq prog [.cell 2 23,.cell 3 25,.tmp 4,.tmp 5] H.length K .ret F H2 :=
  fun {i F H2} hb ds r2 r3 r4 r5 S x1 x3 => badD (a := ((i + 1 : Nat) : Int)) (e := 2) hK (by
   unfold ca
   rw [if_neg (by omega),hb]) (by decide) ds r2 r3 r4 r5 S x1 x3
 refine dh (ba (fun hlt => ?_) fun hge => ?_)
 ·have hi3 : i < 3 := by omega
  refine lenI slP (subI (by omega) (geqI (ba (fun hg => ?_) fun hg => hold.2 ?_)))
  ·have hno : dY i (aE 10 s) = none := if_neg (by omega)
   exact errD1 M (by omega) fun H2 S x1 x3 => bad (linesG_bad hi3 hlin hno) M.ds M.r2 M.r3 rfl rfl S x1 x3
  ·have hil : i + 1 < (aE 10 s).length := by omega
   suffices five : ∀ {F : RG},RdD H b1 b3 b5 b7 F H' → F.r 8 = lv → F.r 9 = nmv → F.r 10 = v → F.r 11 = ab (i : Nat) → w13 J H.length yp28 F H' [Nx H.length (fun x : Nat × List Int => 4 - x.1) (DrI s H Hb b1 b3 b5 b7 lv nmv) (i,xs)] K from five (M.to rfl rfl rfl rfl rfl ag.refl) r8 r9 r10 r11
   intro F M r8 r9 r10 r11
   rw [s13_5]
   simp only [M.r2,M.r3,M.r6,M.r7,r8,r9,r11]
   obtain ⟨u,hu⟩ : ∃ u,(aE 10 s)[i]? = some u := ⟨_,List.getElem?_eq_getElem (by omega)⟩
   have hul := partsB_len (c := 10) s u (List.mem_of_getElem? hu)
   have hLG : dY i (aE 10 s) = cY (gN i) (aE 32 u) := by
    unfold dY
    rw [if_pos hil,List.getD_eq_getElem?_getD,hu]
    rfl
   obtain ⟨nvs,hn1,hn2⟩ := NM.keep S
   have hnl : nvs.length = 3 := by
    obtain ⟨_,_,_,⟨h,_⟩,_⟩ := hn1
    omega
   obtain ⟨nv,hnv⟩ : ∃ x,nvs[i]? = some x := ⟨_,List.getElem?_eq_getElem (by omega)⟩
   have sln := hn2 i nv hnv
   have hgn : (gN i).length < 900 := by match i,hi3 with | 0,_ => decide | 1,_ => decide | 2,_ => decide
   refine cF (x := ay u) slP ⟨by omega,by omega⟩ (by rw [Int.toNat_natCast,List.getElem?_map,hu]; rfl) fun _ => cF (x := nv) hn1 ⟨by omega,by omega⟩ (by rw [Int.toNat_natCast]; exact hnv) fun _ => ?_
   refine good36 hJ (by omega) hgn sln (fun ys v2 o2 H2 hy S2 O2 hO2 => ext0 (ext1 (dU (aP.2 (hold.2 ?_))))) fun H2 hy S2 => ext0 (ext1 (dU (bm.2 ?_)))
   ·rw [← hLG] at hy
    have hyl := lineG_len hi3 hy
    have hy0 : 0 < ys.length := by
     rw [hLG] at hy
     rw [(fillW_len hy).2]
     match i,hi3 with | 0,_ => decide | 1,_ => decide | 2,_ => decide
    have h9 : offG (i + 1) ≤ 9 := by match i,hi3 with | 0,_ => decide | 1,_ => decide | 2,_ => decide
    rw [s13_7]
    have P2 := dI O S2 (by simp)
    have r10' : ∀ {G : RG},G.r 10 = F.r 10 → G.r 10 = v := fun e => e.trans r10
    refine ⟨⟨rfl,by decide,by decide,by decide⟩,?_⟩
    show aApp 1 (F.r 10) v2 H2 _
    rw [r10]
    refine ownX_appN P2 hy0 (by omega) (bS O2) fun v' H3 p3 e3 O3 S3 => ?_
    show aj prog .add 3 (F.r 11) (ab 1) _
    rw [r11]
    have hX : ∀ x ∈ o.toList,b7 < x := fun x hx => by
     have := hO x (by simpa using hx)
     have := S4b.1
     omega
    refine ck (by omega) ⟨(i + 1,xs ++ ys),by dsimp only; omega,.inl ⟨hi3,((M.to (G := F) rfl rfl rfl rfl rfl S2).keepO hX S3).to rfl rfl rfl rfl rfl ag.refl,r8,r9,rfl,⟨v',some p3,rfl,by simpa using O3,fun k e => by cases e; have := S.1; have := S2.1; omega⟩,(S.trans S2).bq S3 fun x hx => .inr (hO x (by simpa using hx)),?_,by simp; omega⟩⟩
    ·show (linesG i (aE 10 s)).bind _ = _
     rw [hlin,Option.bind_some,hy]
     rfl
   ·rw [← hLG] at hy
    exact errD1 (M.to (G := F) rfl rfl rfl rfl rfl S2) (by omega) fun H2 S x1 x3 => bad (linesG_bad hi3 hlin hy) M.ds M.r2 M.r3 rfl rfl S x1 x3
 ·have hi3 : i = 3 := by omega
  subst hi3
  have hend := linesG_end hlin
  have hlen : xs.length = 9 := hlen
  have slv := bS O
  rw [hlen] at slv
  refine lenI slP (neqI (ba (fun hne => hold.2 ?_) fun he => ?_))
  ·exact drd_6 hJ hK (M.to rfl rfl rfl rfl rfl ag.refl) hl (q := true) rfl (fun _ => by rw [hend,if_neg (by omega)]) (fun h => by cases h) hlen r10 slv
  ·have h4 : (aE 10 s).length = 4 := by omega
   obtain ⟨u,hu⟩ : ∃ u,(aE 10 s)[3]? = some u := ⟨_,List.getElem?_eq_getElem (by omega)⟩
   refine cF (x := ay u) slP ⟨by omega,by omega⟩ (by show ((aE 10 s).map ay)[3]? = _; rw [List.getElem?_map,hu]; rfl) fun _ => neS (b := []) (hold.2 ?_)
   refine drd_6 hJ hK (M.to rfl rfl rfl rfl rfl ag.refl) hl rfl (fun h => ?_) (fun h => ?_) hlen r10 slv
   ·have : ¬ u = [] := of_decide_eq_true h
    rw [hend,if_neg (by rw [hu]; simp [this])]
   ·have : u = [] := Decidable.not_not.1 (of_decide_eq_false h)
    rw [hend,if_pos ⟨h4,by rw [hu,this]⟩]
end
end Go.Proofs.YtlhanfcgdfjhjaaGreatDoor
namespace Go.Proofs.YtlhanfcgdfjhjaaGreatDoor
open Go.Conc Go.Proofs.Tryz
set_option maxRecDepth 100000
set_option maxHeartbeats 4000000
set_option linter.unusedVariables false
section
variable {main : Bool} {J : JT} {n0 : Nat} {h : List af} {K : Value → List af → Prop}
theorem at11 : prog.funcs[11]? = some f11 := by kernel_rfl
theorem body11 : f11.body = some (codeOf f11) := by kernel_rfl
def pl11 : bj := [(6,true,.take 0 (.take 1 (.take 3 (.take 7 (.take 8 (.take 9 (.alt 2 false (.alt 4 false (.alt 5 false (.take 6 (.last 10 false (.take 11 (.take 12 (.fin))))) (.last 10 false (.last 5 false (.take 6 (.take 11 (.take 12 (.fin))))))) (.last 10 false (.last 4 false (.last 5 false (.take 6 (.take 11 (.take 12 (.fin)))))))) (.alt 4 false (.alt 2 false (.alt 5 false (.take 6 (.last 10 false (.take 11 (.take 12 (.fin))))) (.last 10 false (.last 5 false (.take 6 (.take 11 (.take 12 (.fin))))))) (.alt 5 false (.alt 2 false (.take 6 (.last 10 false (.take 11 (.take 12 (.fin))))) (.last 10 false (.last 2 false (.take 6 (.take 11 (.take 12 (.fin))))))) (.last 10 false (.alt 2 false (.last 5 false (.take 6 (.take 11 (.take 12 (.fin))))) (.last 5 false (.last 2 false (.take 6 (.take 11 (.take 12 (.fin)))))))))) (.last 10 false (.alt 2 false (.last 4 false (.last 5 false (.take 6 (.take 11 (.take 12 (.fin)))))) (.last 4 false (.alt 2 false (.last 5 false (.take 6 (.take 11 (.take 12 (.fin))))) (.last 5 false (.last 2 false (.take 6 (.take 11 (.take 12 (.fin)))))))))))))))))),
 (8,true,.take 0 (.take 1 (.take 3 (.take 4 (.take 5 (.alt 2 false (.last 6 false (.take 7 (.take 8 (.fin)))) (.last 6 false (.last 2 false (.take 7 (.take 8 (.fin))))))))))),
 (9,true,.take 0 (.take 1 (.take 3 (.take 7 (.take 8 (.alt 2 false (.alt 4 false (.alt 5 false (.take 6 (.last 9 false (.take 10 (.take 11 (.fin))))) (.last 9 false (.last 5 false (.take 6 (.take 10 (.take 11 (.fin))))))) (.last 9 false (.last 4 false (.last 5 false (.take 6 (.take 10 (.take 11 (.fin)))))))) (.alt 4 false (.alt 2 false (.alt 5 false (.take 6 (.last 9 false (.take 10 (.take 11 (.fin))))) (.last 9 false (.last 5 false (.take 6 (.take 10 (.take 11 (.fin))))))) (.alt 5 false (.alt 2 false (.take 6 (.last 9 false (.take 10 (.take 11 (.fin))))) (.last 9 false (.last 2 false (.take 6 (.take 10 (.take 11 (.fin))))))) (.last 9 false (.alt 2 false (.last 5 false (.take 6 (.take 10 (.take 11 (.fin))))) (.last 5 false (.last 2 false (.take 6 (.take 10 (.take 11 (.fin)))))))))) (.last 9 false (.alt 2 false (.last 4 false (.last 5 false (.take 6 (.take 10 (.take 11 (.fin)))))) (.last 4 false (.alt 2 false (.last 5 false (.take 6 (.take 10 (.take 11 (.fin))))) (.last 5 false (.last 2 false (.take 6 (.take 10 (.take 11 (.fin)))))))))))))))))]
def ct11 : bB := .go
theorem pok11 : aC prog pl11 (codeOf f11) = true := by kernel_rfl
theorem e11 {a0 a1 a2 a3 : Value} : W prog J 57 h.length 11 (codeOf f11) (RG.mk (ax [a0,a1,a2,a3]) []) h (aq prog [.tmp 8] h.length K) =
(bA a0 fun v1 =>
aj prog .eql 3 v1 (ab 0) fun v2 =>
cnd v2
((((1 * 1 : Nat) ≤ 16777216 ∧ (1 : Nat) ≤ 16777216 ∧ List.length [(Value.int .u8 0)] = 1) ∧ aH (aV [(Value.int .u8 0)] 1) [(0,1,a3)] fun c3 =>
aX 1 c3 h fun v4 h5 =>
ee v4 h5 fun v6 =>
aI h.length K [] [v6] h5))
(bA a0 fun v7 =>
Good prog J 32 [a1,v7] h fun v8 h9 =>
Good prog J 32 [a2,(ab 3)] h9 fun v10 h11 =>
aj prog .eql 3 v10 (ab 0) fun v12 =>
cnd v12
(aj prog .add 3 v8 (ab 1) fun v13 =>
(aZ a0 none (some v8) fun v14 =>
((((1 * 1 : Nat) ≤ 16777216 ∧ (1 : Nat) ≤ 16777216 ∧ List.length [(Value.int .u8 0)] = 1) ∧ aH (aV [(Value.int .u8 0)] 1) [(0,1,a3)] fun c15 =>
aX 1 c15 h11 fun v16 h17 =>
(ee v16 h17 fun v18 =>
aj prog .add 9 v14 v18 fun v19 =>
aZ a0 (some v13) none fun v20 =>
aj prog .add 9 v19 v20 fun v21 =>
aI h.length K [] [v21] h17) ∧ (aZ a0 (some v13) none fun v22 =>
ee v16 h17 fun v23 =>
aj prog .add 9 v14 v23 fun v24 =>
aj prog .add 9 v24 v22 fun v25 =>
aI h.length K [] [v25] h17))) ∧ (aZ a0 (some v13) none fun v26 =>
(((1 * 1 : Nat) ≤ 16777216 ∧ (1 : Nat) ≤ 16777216 ∧ List.length [(Value.int .u8 0)] = 1) ∧ aH (aV [(Value.int .u8 0)] 1) [(0,1,a3)] fun c27 =>
aX 1 c27 h11 fun v28 h29 =>
ee v28 h29 fun v30 =>
aj prog .add 9 v14 v30 fun v31 =>
aj prog .add 9 v31 v26 fun v32 =>
aI h.length K [] [v32] h29))) ∧ ((((1 * 1 : Nat) ≤ 16777216 ∧ (1 : Nat) ≤ 16777216 ∧ List.length [(Value.int .u8 0)] = 1) ∧ aH (aV [(Value.int .u8 0)] 1) [(0,1,a3)] fun c33 =>
aX 1 c33 h11 fun v34 h35 =>
(aZ a0 none (some v8) fun v36 =>
(ee v34 h35 fun v37 =>
aj prog .add 9 v36 v37 fun v38 =>
aZ a0 (some v13) none fun v39 =>
aj prog .add 9 v38 v39 fun v40 =>
aI h.length K [] [v40] h35) ∧ (aZ a0 (some v13) none fun v41 =>
ee v34 h35 fun v42 =>
aj prog .add 9 v36 v42 fun v43 =>
aj prog .add 9 v43 v41 fun v44 =>
aI h.length K [] [v44] h35)) ∧ (ee v34 h35 fun v45 =>
(aZ a0 none (some v8) fun v46 =>
aj prog .add 9 v46 v45 fun v47 =>
aZ a0 (some v13) none fun v48 =>
aj prog .add 9 v47 v48 fun v49 =>
aI h.length K [] [v49] h35) ∧ (aZ a0 (some v13) none fun v50 =>
aZ a0 none (some v8) fun v51 =>
aj prog .add 9 v51 v45 fun v52 =>
aj prog .add 9 v52 v50 fun v53 =>
aI h.length K [] [v53] h35)) ∧ (aZ a0 (some v13) none fun v54 =>
(aZ a0 none (some v8) fun v55 =>
ee v34 h35 fun v56 =>
aj prog .add 9 v55 v56 fun v57 =>
aj prog .add 9 v57 v54 fun v58 =>
aI h.length K [] [v58] h35) ∧ (ee v34 h35 fun v59 =>
aZ a0 none (some v8) fun v60 =>
aj prog .add 9 v60 v59 fun v61 =>
aj prog .add 9 v61 v54 fun v62 =>
aI h.length K [] [v62] h35)))) ∧ (aZ a0 (some v13) none fun v63 =>
(aZ a0 none (some v8) fun v64 =>
(((1 * 1 : Nat) ≤ 16777216 ∧ (1 : Nat) ≤ 16777216 ∧ List.length [(Value.int .u8 0)] = 1) ∧ aH (aV [(Value.int .u8 0)] 1) [(0,1,a3)] fun c65 =>
aX 1 c65 h11 fun v66 h67 =>
ee v66 h67 fun v68 =>
aj prog .add 9 v64 v68 fun v69 =>
aj prog .add 9 v69 v63 fun v70 =>
aI h.length K [] [v70] h67)) ∧ ((((1 * 1 : Nat) ≤ 16777216 ∧ (1 : Nat) ≤ 16777216 ∧ List.length [(Value.int .u8 0)] = 1) ∧ aH (aV [(Value.int .u8 0)] 1) [(0,1,a3)] fun c71 =>
aX 1 c71 h11 fun v72 h73 =>
(aZ a0 none (some v8) fun v74 =>
ee v72 h73 fun v75 =>
aj prog .add 9 v74 v75 fun v76 =>
aj prog .add 9 v76 v63 fun v77 =>
aI h.length K [] [v77] h73) ∧ (ee v72 h73 fun v78 =>
aZ a0 none (some v8) fun v79 =>
aj prog .add 9 v79 v78 fun v80 =>
aj prog .add 9 v80 v63 fun v81 =>
aI h.length K [] [v81] h73)))))
(aj prog .eql 3 v10 (ab 1) fun v82 =>
cnd v82
(aj prog .add 3 v8 (ab 1) fun v83 =>
(aZ a0 none (some v8) fun v84 =>
aZ a0 (some v83) none fun v85 =>
aj prog .add 9 v84 v85 fun v86 =>
aI h.length K [] [v86] h11) ∧ (aZ a0 (some v83) none fun v87 =>
aZ a0 none (some v8) fun v88 =>
aj prog .add 9 v88 v87 fun v89 =>
aI h.length K [] [v89] h11))
((aZ a0 none (some v8) fun v90 =>
((((1 * 1 : Nat) ≤ 16777216 ∧ (1 : Nat) ≤ 16777216 ∧ List.length [(Value.int .u8 0)] = 1) ∧ aH (aV [(Value.int .u8 0)] 1) [(0,1,a3)] fun c91 =>
aX 1 c91 h11 fun v92 h93 =>
(ee v92 h93 fun v94 =>
aj prog .add 9 v90 v94 fun v95 =>
aZ a0 (some v8) none fun v96 =>
aj prog .add 9 v95 v96 fun v97 =>
aI h.length K [] [v97] h93) ∧ (aZ a0 (some v8) none fun v98 =>
ee v92 h93 fun v99 =>
aj prog .add 9 v90 v99 fun v100 =>
aj prog .add 9 v100 v98 fun v101 =>
aI h.length K [] [v101] h93))) ∧ (aZ a0 (some v8) none fun v102 =>
(((1 * 1 : Nat) ≤ 16777216 ∧ (1 : Nat) ≤ 16777216 ∧ List.length [(Value.int .u8 0)] = 1) ∧ aH (aV [(Value.int .u8 0)] 1) [(0,1,a3)] fun c103 =>
aX 1 c103 h11 fun v104 h105 =>
ee v104 h105 fun v106 =>
aj prog .add 9 v90 v106 fun v107 =>
aj prog .add 9 v107 v102 fun v108 =>
aI h.length K [] [v108] h105))) ∧ ((((1 * 1 : Nat) ≤ 16777216 ∧ (1 : Nat) ≤ 16777216 ∧ List.length [(Value.int .u8 0)] = 1) ∧ aH (aV [(Value.int .u8 0)] 1) [(0,1,a3)] fun c109 =>
aX 1 c109 h11 fun v110 h111 =>
(aZ a0 none (some v8) fun v112 =>
(ee v110 h111 fun v113 =>
aj prog .add 9 v112 v113 fun v114 =>
aZ a0 (some v8) none fun v115 =>
aj prog .add 9 v114 v115 fun v116 =>
aI h.length K [] [v116] h111) ∧ (aZ a0 (some v8) none fun v117 =>
ee v110 h111 fun v118 =>
aj prog .add 9 v112 v118 fun v119 =>
aj prog .add 9 v119 v117 fun v120 =>
aI h.length K [] [v120] h111)) ∧ (ee v110 h111 fun v121 =>
(aZ a0 none (some v8) fun v122 =>
aj prog .add 9 v122 v121 fun v123 =>
aZ a0 (some v8) none fun v124 =>
aj prog .add 9 v123 v124 fun v125 =>
aI h.length K [] [v125] h111) ∧ (aZ a0 (some v8) none fun v126 =>
aZ a0 none (some v8) fun v127 =>
aj prog .add 9 v127 v121 fun v128 =>
aj prog .add 9 v128 v126 fun v129 =>
aI h.length K [] [v129] h111)) ∧ (aZ a0 (some v8) none fun v130 =>
(aZ a0 none (some v8) fun v131 =>
ee v110 h111 fun v132 =>
aj prog .add 9 v131 v132 fun v133 =>
aj prog .add 9 v133 v130 fun v134 =>
aI h.length K [] [v134] h111) ∧ (ee v110 h111 fun v135 =>
aZ a0 none (some v8) fun v136 =>
aj prog .add 9 v136 v135 fun v137 =>
aj prog .add 9 v137 v130 fun v138 =>
aI h.length K [] [v138] h111)))) ∧ (aZ a0 (some v8) none fun v139 =>
(aZ a0 none (some v8) fun v140 =>
(((1 * 1 : Nat) ≤ 16777216 ∧ (1 : Nat) ≤ 16777216 ∧ List.length [(Value.int .u8 0)] = 1) ∧ aH (aV [(Value.int .u8 0)] 1) [(0,1,a3)] fun c141 =>
aX 1 c141 h11 fun v142 h143 =>
ee v142 h143 fun v144 =>
aj prog .add 9 v140 v144 fun v145 =>
aj prog .add 9 v145 v139 fun v146 =>
aI h.length K [] [v146] h143)) ∧ ((((1 * 1 : Nat) ≤ 16777216 ∧ (1 : Nat) ≤ 16777216 ∧ List.length [(Value.int .u8 0)] = 1) ∧ aH (aV [(Value.int .u8 0)] 1) [(0,1,a3)] fun c147 =>
aX 1 c147 h11 fun v148 h149 =>
(aZ a0 none (some v8) fun v150 =>
ee v148 h149 fun v151 =>
aj prog .add 9 v150 v151 fun v152 =>
aj prog .add 9 v152 v139 fun v153 =>
aI h.length K [] [v153] h149) ∧ (ee v148 h149 fun v154 =>
aZ a0 none (some v8) fun v155 =>
aj prog .add 9 v155 v154 fun v156 =>
aj prog .add 9 v156 v139 fun v157 =>
aI h.length K [] [v157] h149)))))))) := aT pok11 ct11 (by kernel_rfl)
theorem g11 (hJ : Closed prog main J) {a0 a1 a2 a3 : Value} (hs : aD h → W prog J 57 h.length 11 (codeOf f11) (RG.mk (ax [a0,a1,a2,a3]) []) h (aq prog [.tmp 8] h.length K)) : Good prog J 11 [a0,a1,a2,a3] h K :=
 az hJ mixed at11 body11 (by kernel_rfl) (Nat.le_of_ble_eq_true rfl) hs
theorem at32 : prog.funcs[32]? = some f32 := by kernel_rfl
theorem body32 : f32.body = some (codeOf f32) := by kernel_rfl
def pl32 : bj := []
def ct32 : bB := .go
theorem pok32 : aC prog pl32 (codeOf f32) = true := by kernel_rfl
theorem e32 {a0 a1 : Value} : W prog J 16 h.length 32 (codeOf f32) (RG.mk (ax [a0,a1]) []) h (aq prog [.tmp 4] h.length K) =
(aj prog .lss 3 a1 (ab 1) fun v1 =>
cnd v1
(aI h.length K [] [(ab 0)] h)
(aj prog .rem 3 a0 a1 fun v2 =>
aj prog .lss 3 v2 (ab 0) fun v3 =>
cnd v3
(aj prog .add 3 v2 a1 fun v4 =>
aI h.length K [] [v4] h)
(aI h.length K [] [v2] h))) := aT pok32 ct32 (by kernel_rfl)
theorem g32 (hJ : Closed prog main J) {a0 a1 : Value} (hs : aD h → W prog J 16 h.length 32 (codeOf f32) (RG.mk (ax [a0,a1]) []) h (aq prog [.tmp 4] h.length K)) : Good prog J 32 [a0,a1] h K :=
 az hJ mixed at32 body32 (by kernel_rfl) (Nat.le_of_ble_eq_true rfl) hs
end
end Go.Proofs.YtlhanfcgdfjhjaaGreatDoor
namespace Go.Proofs.YtlhanfcgdfjhjaaGreatDoor
open Go.Conc Go.Proofs.Tryz
set_option maxRecDepth 100000
section
variable {main : Bool} {J : JT} {h H : List af} {K : Value → List af → Prop} {KV : Value → Prop}
theorem remX {t : TypeId} {x n : Int} (hn : 1 ≤ n) (hK : ∀ r : Int,-n < r → r < n → KV (ab r)) : aj prog .rem t (ab x) (ab n) KV := by
 simp only [aj,aInt,true_and]
 exact ⟨by omega,hK _ (Int.lt_tmod_of_pos x (by omega)) (Int.tmod_lt_of_pos x (by omega))⟩
theorem good32 (hJ : Closed prog main J) {x n : Int} (hn : 1 ≤ n ∧ n ≤ 1000000) (hK : ∀ r : Int,0 ≤ r → r < n → K (ab r) H) : Good prog J 32 [ab x,ab n] H K := by
 refine g32 hJ fun ok => ?_
 rw [e32]
 refine dh (ba (fun h1 => absurd h1 (by omega)) fun _ => ?_)
 refine remX (by omega) fun r b2 b1 => dh (ba (fun h2 => ?_) fun h2 => ao (by simp [unk]) (hK r (by omega) b1))
 exact ck (by omega) (ao (by simp [unk]) (hK _ (by omega) (by omega)))
theorem slTo {w : List UInt8} {k : Int} (hk : 0 ≤ k ∧ k ≤ w.length) (hK : ∀ u : List UInt8,(u.length : Int) = k → KV (ay u)) : aZ (ay w) none (some (ab k)) KV := by
 obtain ⟨n,rfl⟩ := Int.eq_ofNat_of_zero_le hk.1
 show match (some 0 : Option Nat),(bif decide ((0 : Int) ≤ (n : Nat)) then some ((n : Nat) : Int).toNat else none) with
  | some l,some u => (l ≤ u ∧ u ≤ w.length) ∧ KV (.string ⟨⟨(w.take u).drop l⟩⟩)
  | _,_ => False
 rw [decide_eq_true (by omega : (0 : Int) ≤ (n : Nat)),cond_true,Int.toNat_natCast]
 exact ⟨⟨by omega,by omega⟩,hK _ (by simp; omega)⟩
theorem slFr {w : List UInt8} {k : Int} (hk : 0 ≤ k ∧ k ≤ w.length) (hK : ∀ u : List UInt8,(u.length : Int) = w.length - k → KV (ay u)) : aZ (ay w) (some (ab k)) none KV := by
 obtain ⟨n,rfl⟩ := Int.eq_ofNat_of_zero_le hk.1
 show match (bif decide ((0 : Int) ≤ (n : Nat)) then some ((n : Nat) : Int).toNat else none),(some w.length : Option Nat) with
  | some l,some u => (l ≤ u ∧ u ≤ w.length) ∧ KV (.string ⟨⟨(w.take u).drop l⟩⟩)
  | _,_ => False
 rw [decide_eq_true (by omega : (0 : Int) ≤ (n : Nat)),cond_true,Int.toNat_natCast]
 exact ⟨⟨by omega,by omega⟩,hK _ (by simp; omega)⟩
theorem catS {t : TypeId} {u v : List UInt8} (hl : u.length + v.length ≤ 1000000) (hK : ∀ x : List UInt8,x.length = u.length + v.length → KV (ay x)) : aj prog .add t (ay u) (ay v) KV := by
 have hrm : (2000000 : Nat) < room := by decide
 show (ByteArray.mk ⟨u⟩).size + (ByteArray.mk ⟨v⟩).size ≤ room ∧ KV (.string (ByteArray.mk ⟨u⟩ ++ ByteArray.mk ⟨v⟩))
 have e1 : (ByteArray.mk ⟨v⟩).size = v.length := rfl
 have e2 : (ByteArray.mk ⟨u⟩).size = u.length := rfl
 have e3 : ByteArray.mk ⟨u⟩ ++ ByteArray.mk ⟨v⟩ = ByteArray.mk ⟨u ++ v⟩ := by
  apply ByteArray.ext
  rw [ByteArray.data_append]
  apply Array.ext'
  rw [Array.toList_append]
 rw [e1,e2,e3]
 exact ⟨by omega,hK _ (by simp)⟩
theorem newB {b : UInt8} {KB : Value → List af → Prop} (hK : ∀ H' p,ag [] H H' → H'[p]? = some (.cells [bV b] true 0) → KB (.slice (some ⟨p,0,none⟩) 1 1) H') :
  ((1 * 1 : Nat) ≤ 16777216 ∧ (1 : Nat) ≤ 16777216 ∧ List.length [(Value.int .u8 0)] = 1) ∧ aH (aV [(Value.int .u8 0)] 1) [(0,1,bV b)] fun c3 => aX 1 c3 H KB :=
 ⟨by decide,aK (l := [bV b]) rfl rfl rfl (by decide) (bu (du fun H1 p1 e1 S1 c1 l1 => hK H1 p1 S1 c1))⟩
theorem b2s {b : UInt8} {p : Nat} (hp : H[p]? = some (.cells [bV b] true 0)) (hK : ∀ u : List UInt8,u.length = 1 → KV (ay u)) : ee (.slice (some ⟨p,0,none⟩) 1 1) H KV := strI (w := [b]) hp rfl rfl (hK [b] rfl)
set_option maxHeartbeats 2000000 in
theorem good11 (hJ : Closed prog main J) {w : List UInt8} {b : UInt8} {at_ how : Int} (hw : w.length ≤ 1000) (hK : ∀ (u : List UInt8) H',u.length ≤ w.length + 1 → ag [] H H' → K (ay u) H') : Good prog J 11 [ay w,ab at_,ab how,bV b] H K := by
 refine g11 hJ fun ok => ?_
 rw [e11]
 have fin : ∀ {u : List UInt8} {H' : List af},u.length ≤ w.length + 1 → ag [] H H' → aI H.length K [] [ay u] H' := fun h1 h2 => ao (by simp [unk,ay]) (hK _ _ h1 h2)
 refine lenStrI (eqlI (ba (fun h0 => newB fun H1 p1 S1 c1 => b2s c1 fun u hu => fin (by omega) S1) fun h0 => ?_))
 refine lenStrI (good32 hJ (by omega) fun k k0 k1 => good32 hJ (by decide) fun m m0 m1 => eqlI (ba (fun _ => ck (by omega) ?_) fun _ => eqlI (ba (fun _ => ck (by omega) ?_) fun _ => ?_)))
 all_goals
  repeat' first
   | exact fin (by omega) (by first | assumption | exact ag.refl)
   | refine slTo (by omega) fun _ _ => ?_
   | refine slFr (by omega) fun _ _ => ?_
   | refine catS (by omega) fun _ _ => ?_
   | refine newB fun _ _ _ _ => ?_
   | refine b2s (by assumption) fun _ _ => ?_
   | refine ⟨?_,?_⟩
end
end Go.Proofs.YtlhanfcgdfjhjaaGreatDoor
namespace Go.Proofs.YtlhanfcgdfjhjaaGreatDoor
open Go.Conc Go.Proofs.Tryz
set_option maxRecDepth 100000
set_option maxHeartbeats 4000000
set_option linter.unusedVariables false
section
variable {main : Bool} {J : JT} {n0 : Nat} {h : List af} {K : Value → List af → Prop}
theorem at3 : prog.funcs[3]? = some f3 := by kernel_rfl
theorem body3 : f3.body = some (codeOf f3) := by kernel_rfl
def pl3 : bj := [(4,false,.take 0 (.take 1 (.take 4 (.take 5 (.take 8 (.alt 2 true (.alt 3 true (.alt 6 true (.take 10 (.alt 7 true (.take 11 (.last 9 true (.take 12 (.fin)))) (.last 9 true (.last 7 true (.take 11 (.take 12 (.fin))))))) (.last 9 true (.last 6 true (.take 10 (.last 7 true (.take 11 (.take 12 (.fin)))))))) (.alt 6 true (.alt 3 true (.take 10 (.alt 7 true (.take 11 (.last 9 true (.take 12 (.fin)))) (.last 9 true (.last 7 true (.take 11 (.take 12 (.fin))))))) (.alt 7 true (.alt 3 true (.take 10 (.take 11 (.last 9 true (.take 12 (.fin))))) (.last 9 true (.last 3 true (.take 10 (.take 11 (.take 12 (.fin))))))) (.last 9 true (.alt 3 true (.take 10 (.last 7 true (.take 11 (.take 12 (.fin))))) (.last 7 true (.last 3 true (.take 10 (.take 11 (.take 12 (.fin)))))))))) (.last 9 true (.alt 3 true (.last 6 true (.take 10 (.last 7 true (.take 11 (.take 12 (.fin)))))) (.last 6 true (.alt 3 true (.take 10 (.last 7 true (.take 11 (.take 12 (.fin))))) (.last 7 true (.last 3 true (.take 10 (.take 11 (.take 12 (.fin)))))))))))) (.last 9 true (.last 2 true (.alt 3 true (.last 6 true (.take 10 (.last 7 true (.take 11 (.take 12 (.fin)))))) (.last 6 true (.alt 3 true (.take 10 (.last 7 true (.take 11 (.take 12 (.fin))))) (.last 7 true (.last 3 true (.take 10 (.take 11 (.take 12 (.fin))))))))))))))))),
 (8,true,.take 0 (.take 1 (.take 2 (.take 3 (.take 4 (.take 5 (.take 6 (.take 7 (.last 8 false (.take 9 (.take 10 (.take 11 (.take 12 (.take 13 (.fin))))))))))))))),
 (9,true,.take 0 (.take 1 (.take 2 (.take 3 (.take 4 (.take 5 (.take 6 (.take 7 (.last 8 false (.take 9 (.take 10 (.take 11 (.take 12 (.take 13 (.fin)))))))))))))))]
def ct3 : bB := .bin (.go) (.bin (.bin (.go) (.cut (.go))) (.cut (.bin (.go) (.cut (.bin (.go) (.cut (.bin (.bin (.go) (.un (.un (.bin (.go) (.bin (.un (.bin (.go) (.cut (.bin (.go) (.cut (.bin (.bin (.go) (.cut (.go))) (.go))))))) (.go)))))) (.cut (.bin (.go) (.cut (.bin (.bin (.go) (.un (.un (.bin (.go) (.bin (.un (.bin (.go) (.cut (.bin (.go) (.cut (.bin (.go) (.cut (.go)))))))) (.go)))))) (.cut (.go)))))))))))))
theorem pok3 : aC prog pl3 (codeOf f3) = true := by kernel_rfl
abbrev w3 (J : JT) (n0 : Nat) (p : List Nat) (f : RG) (h : List af) (l : List (RG → List af → Prop)) (K : Value → List af → Prop) : Prop := W prog J 151 n0 3 (aw p (codeOf f3)) f h (aA pl3 prog J 151 n0 3 ct3 p (codeOf f3) l (aq prog [.tmp 14] n0 K))
theorem e3 {a0 a1 a2 a3 a4 a5 a6 : Value} : W prog J 151 h.length 3 (codeOf f3) (RG.mk (ax [a0,a1,a2,a3,a4,a5,a6]) []) h (aq prog [.tmp 14] h.length K) =
(cq a0 h fun v1 h2 =>
cq a1 h2 fun v3 h4 =>
bA a2 fun v5 =>
aj prog .gtr 3 v5 (ab 110) fun v6 =>
cnd v6
(bA a2 fun v7 =>
aj prog .leq 3 v7 (ab 120) fun v8 =>
bh (w3 J h.length [1,0,1] (((((((((((((RG.mk (ax [a0,a1,a2,a3,a4,a5,a6]) []).p 7 v1).p 8 v3).p 14 (Value.bool false)).p 33 a2).p 34 v5).p 35 v6).p 36 v6).p 36 (Value.bool true)).p 37 a2).p 38 v7).p 39 v8).p 40 v8) h4 [] K))
(bh (w3 J h.length [1,0,1] (((((((((((((RG.mk (ax [a0,a1,a2,a3,a4,a5,a6]) []).p 7 v1).p 8 v3).p 14 (Value.bool false)).p 33 a2).p 34 v5).p 35 v6).p 36 v6).p 36 (Value.bool false)).p 37 undef).p 38 undef).p 39 undef).p 40 (Value.bool false)) h4 [] K))) := aT pok3 ct3 (by kernel_rfl)
theorem s3_1 {f : RG} : w3 J n0 [1,0,1] f h [] K =
(cnd (f.r 40)
(Good prog J 5 [] h fun v1 h2 =>
aI n0 K f.ds [v1] h2)
(bh (w3 J n0 [1,1] f h [] K))) := sub_eq pok3 ct3 (by kernel_rfl)
theorem s3_2 {f : RG} : w3 J n0 [1,1] f h [] K =
(Good prog J 6 [(f.r 3)] h fun v1 h2 =>
bh (w3 J n0 [1,1,1] (((f.p 42 (f.r 3)).p 43 v1).p 15 v1) h2 [] K)) := sub_eq pok3 ct3 (by kernel_rfl)
theorem s3_3 {f : RG} : w3 J n0 [1,1,1] f h [] K =
((∃ B,ai true 6 (f.r 7) h fun v1 =>
aR (some B) (au (f.r 7)) ∧ (ai true 3 (f.r 8) h fun v2 =>
aR (some B) (au (f.r 8)) ∧ ((Good prog J 7 [(f.r 15)] h fun v3 h4 =>
aG (some B) h h4 ∧ (((((2 * 6 : Nat) ≤ 16777216 ∧ (2 : Nat) ≤ 16777216 ∧ List.length [(ab 0),(ab 0),(ab 0),(ab 0),(ab 0),(ab 0)] = 6) ∧ aH (aV [(ab 0),(ab 0),(ab 0),(ab 0),(ab 0),(ab 0)] 2) [(0,6,v1),(6,6,v3)] fun c5 =>
aX 2 c5 h4 fun v6 h7 =>
aG (some B) h h7 ∧ ((Good prog J 8 [(f.r 15),(ab 8)] h7 fun v8 h9 =>
aG (some B) h h9 ∧ (((((2 * 3 : Nat) ≤ 16777216 ∧ (2 : Nat) ≤ 16777216 ∧ List.length [(ab 0),(ab 0),(ab 0)] = 3) ∧ aH (aV [(ab 0),(ab 0),(ab 0)] 2) [(0,3,v2),(3,3,v8)] fun c10 =>
aX 2 c10 h9 fun v11 h12 =>
aG (some B) h h12 ∧ ((((1 * 1 : Nat) ≤ 16777216 ∧ (1 : Nat) ≤ 16777216 ∧ List.length [(Value.string { data := #[] })] = 1) ∧ aH (aV [(Value.string { data := #[] })] 1) [(0,1,(f.r 2))] fun c13 =>
aX 1 c13 h12 fun v14 h15 =>
aG (some B) h h15 ∧ (bh (w3 J n0 [1,1,1,1] (((((((((((((f.p 44 v1).p 45 (f.r 15)).p 48 v2).p 49 (f.r 15)).p 52 (f.r 2)).p 46 v3).p 47 v6).p 50 v8).p 16 v6).p 51 v11).p 17 v11).p 53 v14).p 18 v14) h15 [] K)))))) ∧ ((((1 * 1 : Nat) ≤ 16777216 ∧ (1 : Nat) ≤ 16777216 ∧ List.length [(Value.string { data := #[] })] = 1) ∧ aH (aV [(Value.string { data := #[] })] 1) [(0,1,(f.r 2))] fun c16 =>
aX 1 c16 h9 fun v17 h18 =>
aG (some B) h h18 ∧ ((((2 * 3 : Nat) ≤ 16777216 ∧ (2 : Nat) ≤ 16777216 ∧ List.length [(ab 0),(ab 0),(ab 0)] = 3) ∧ aH (aV [(ab 0),(ab 0),(ab 0)] 2) [(0,3,v2),(3,3,v8)] fun c19 =>
aX 2 c19 h18 fun v20 h21 =>
aG (some B) h h21 ∧ (bh (w3 J n0 [1,1,1,1] (((((((((((((f.p 44 v1).p 45 (f.r 15)).p 48 v2).p 49 (f.r 15)).p 52 (f.r 2)).p 46 v3).p 47 v6).p 50 v8).p 16 v6).p 53 v17).p 51 v20).p 17 v20).p 18 v17) h21 [] K)))))))) ∧ ((((1 * 1 : Nat) ≤ 16777216 ∧ (1 : Nat) ≤ 16777216 ∧ List.length [(Value.string { data := #[] })] = 1) ∧ aH (aV [(Value.string { data := #[] })] 1) [(0,1,(f.r 2))] fun c22 =>
aX 1 c22 h7 fun v23 h24 =>
aG (some B) h h24 ∧ (Good prog J 8 [(f.r 15),(ab 8)] h24 fun v25 h26 =>
aG (some B) h h26 ∧ ((((2 * 3 : Nat) ≤ 16777216 ∧ (2 : Nat) ≤ 16777216 ∧ List.length [(ab 0),(ab 0),(ab 0)] = 3) ∧ aH (aV [(ab 0),(ab 0),(ab 0)] 2) [(0,3,v2),(3,3,v25)] fun c27 =>
aX 2 c27 h26 fun v28 h29 =>
aG (some B) h h29 ∧ (bh (w3 J n0 [1,1,1,1] (((((((((((((f.p 44 v1).p 45 (f.r 15)).p 48 v2).p 49 (f.r 15)).p 52 (f.r 2)).p 46 v3).p 47 v6).p 53 v23).p 50 v25).p 16 v6).p 51 v28).p 17 v28).p 18 v23) h29 [] K)))))))))) ∧ (Good prog J 8 [(f.r 15),(ab 8)] h4 fun v30 h31 =>
aG (some B) h h31 ∧ (((((2 * 6 : Nat) ≤ 16777216 ∧ (2 : Nat) ≤ 16777216 ∧ List.length [(ab 0),(ab 0),(ab 0),(ab 0),(ab 0),(ab 0)] = 6) ∧ aH (aV [(ab 0),(ab 0),(ab 0),(ab 0),(ab 0),(ab 0)] 2) [(0,6,v1),(6,6,v3)] fun c32 =>
aX 2 c32 h31 fun v33 h34 =>
aG (some B) h h34 ∧ (((((2 * 3 : Nat) ≤ 16777216 ∧ (2 : Nat) ≤ 16777216 ∧ List.length [(ab 0),(ab 0),(ab 0)] = 3) ∧ aH (aV [(ab 0),(ab 0),(ab 0)] 2) [(0,3,v2),(3,3,v30)] fun c35 =>
aX 2 c35 h34 fun v36 h37 =>
aG (some B) h h37 ∧ ((((1 * 1 : Nat) ≤ 16777216 ∧ (1 : Nat) ≤ 16777216 ∧ List.length [(Value.string { data := #[] })] = 1) ∧ aH (aV [(Value.string { data := #[] })] 1) [(0,1,(f.r 2))] fun c38 =>
aX 1 c38 h37 fun v39 h40 =>
aG (some B) h h40 ∧ (bh (w3 J n0 [1,1,1,1] (((((((((((((f.p 44 v1).p 45 (f.r 15)).p 48 v2).p 49 (f.r 15)).p 52 (f.r 2)).p 46 v3).p 50 v30).p 47 v33).p 16 v33).p 51 v36).p 17 v36).p 53 v39).p 18 v39) h40 [] K)))))) ∧ ((((1 * 1 : Nat) ≤ 16777216 ∧ (1 : Nat) ≤ 16777216 ∧ List.length [(Value.string { data := #[] })] = 1) ∧ aH (aV [(Value.string { data := #[] })] 1) [(0,1,(f.r 2))] fun c41 =>
aX 1 c41 h34 fun v42 h43 =>
aG (some B) h h43 ∧ ((((2 * 3 : Nat) ≤ 16777216 ∧ (2 : Nat) ≤ 16777216 ∧ List.length [(ab 0),(ab 0),(ab 0)] = 3) ∧ aH (aV [(ab 0),(ab 0),(ab 0)] 2) [(0,3,v2),(3,3,v30)] fun c44 =>
aX 2 c44 h43 fun v45 h46 =>
aG (some B) h h46 ∧ (bh (w3 J n0 [1,1,1,1] (((((((((((((f.p 44 v1).p 45 (f.r 15)).p 48 v2).p 49 (f.r 15)).p 52 (f.r 2)).p 46 v3).p 50 v30).p 47 v33).p 16 v33).p 53 v42).p 51 v45).p 17 v45).p 18 v42) h46 [] K))))))))) ∧ ((((2 * 3 : Nat) ≤ 16777216 ∧ (2 : Nat) ≤ 16777216 ∧ List.length [(ab 0),(ab 0),(ab 0)] = 3) ∧ aH (aV [(ab 0),(ab 0),(ab 0)] 2) [(0,3,v2),(3,3,v30)] fun c47 =>
aX 2 c47 h31 fun v48 h49 =>
aG (some B) h h49 ∧ (((((2 * 6 : Nat) ≤ 16777216 ∧ (2 : Nat) ≤ 16777216 ∧ List.length [(ab 0),(ab 0),(ab 0),(ab 0),(ab 0),(ab 0)] = 6) ∧ aH (aV [(ab 0),(ab 0),(ab 0),(ab 0),(ab 0),(ab 0)] 2) [(0,6,v1),(6,6,v3)] fun c50 =>
aX 2 c50 h49 fun v51 h52 =>
aG (some B) h h52 ∧ ((((1 * 1 : Nat) ≤ 16777216 ∧ (1 : Nat) ≤ 16777216 ∧ List.length [(Value.string { data := #[] })] = 1) ∧ aH (aV [(Value.string { data := #[] })] 1) [(0,1,(f.r 2))] fun c53 =>
aX 1 c53 h52 fun v54 h55 =>
aG (some B) h h55 ∧ (bh (w3 J n0 [1,1,1,1] (((((((((((((f.p 44 v1).p 45 (f.r 15)).p 48 v2).p 49 (f.r 15)).p 52 (f.r 2)).p 46 v3).p 50 v30).p 51 v48).p 47 v51).p 16 v51).p 17 v48).p 53 v54).p 18 v54) h55 [] K)))))) ∧ ((((1 * 1 : Nat) ≤ 16777216 ∧ (1 : Nat) ≤ 16777216 ∧ List.length [(Value.string { data := #[] })] = 1) ∧ aH (aV [(Value.string { data := #[] })] 1) [(0,1,(f.r 2))] fun c56 =>
aX 1 c56 h49 fun v57 h58 =>
aG (some B) h h58 ∧ ((((2 * 6 : Nat) ≤ 16777216 ∧ (2 : Nat) ≤ 16777216 ∧ List.length [(ab 0),(ab 0),(ab 0),(ab 0),(ab 0),(ab 0)] = 6) ∧ aH (aV [(ab 0),(ab 0),(ab 0),(ab 0),(ab 0),(ab 0)] 2) [(0,6,v1),(6,6,v3)] fun c59 =>
aX 2 c59 h58 fun v60 h61 =>
aG (some B) h h61 ∧ (bh (w3 J n0 [1,1,1,1] (((((((((((((f.p 44 v1).p 45 (f.r 15)).p 48 v2).p 49 (f.r 15)).p 52 (f.r 2)).p 46 v3).p 50 v30).p 51 v48).p 53 v57).p 47 v60).p 16 v60).p 17 v48).p 18 v57) h61 [] K))))))))) ∧ ((((1 * 1 : Nat) ≤ 16777216 ∧ (1 : Nat) ≤ 16777216 ∧ List.length [(Value.string { data := #[] })] = 1) ∧ aH (aV [(Value.string { data := #[] })] 1) [(0,1,(f.r 2))] fun c62 =>
aX 1 c62 h31 fun v63 h64 =>
aG (some B) h h64 ∧ (((((2 * 6 : Nat) ≤ 16777216 ∧ (2 : Nat) ≤ 16777216 ∧ List.length [(ab 0),(ab 0),(ab 0),(ab 0),(ab 0),(ab 0)] = 6) ∧ aH (aV [(ab 0),(ab 0),(ab 0),(ab 0),(ab 0),(ab 0)] 2) [(0,6,v1),(6,6,v3)] fun c65 =>
aX 2 c65 h64 fun v66 h67 =>
aG (some B) h h67 ∧ ((((2 * 3 : Nat) ≤ 16777216 ∧ (2 : Nat) ≤ 16777216 ∧ List.length [(ab 0),(ab 0),(ab 0)] = 3) ∧ aH (aV [(ab 0),(ab 0),(ab 0)] 2) [(0,3,v2),(3,3,v30)] fun c68 =>
aX 2 c68 h67 fun v69 h70 =>
aG (some B) h h70 ∧ (bh (w3 J n0 [1,1,1,1] (((((((((((((f.p 44 v1).p 45 (f.r 15)).p 48 v2).p 49 (f.r 15)).p 52 (f.r 2)).p 46 v3).p 50 v30).p 53 v63).p 47 v66).p 16 v66).p 51 v69).p 17 v69).p 18 v63) h70 [] K)))))) ∧ ((((2 * 3 : Nat) ≤ 16777216 ∧ (2 : Nat) ≤ 16777216 ∧ List.length [(ab 0),(ab 0),(ab 0)] = 3) ∧ aH (aV [(ab 0),(ab 0),(ab 0)] 2) [(0,3,v2),(3,3,v30)] fun c71 =>
aX 2 c71 h64 fun v72 h73 =>
aG (some B) h h73 ∧ ((((2 * 6 : Nat) ≤ 16777216 ∧ (2 : Nat) ≤ 16777216 ∧ List.length [(ab 0),(ab 0),(ab 0),(ab 0),(ab 0),(ab 0)] = 6) ∧ aH (aV [(ab 0),(ab 0),(ab 0),(ab 0),(ab 0),(ab 0)] 2) [(0,6,v1),(6,6,v3)] fun c74 =>
aX 2 c74 h73 fun v75 h76 =>
aG (some B) h h76 ∧ (bh (w3 J n0 [1,1,1,1] (((((((((((((f.p 44 v1).p 45 (f.r 15)).p 48 v2).p 49 (f.r 15)).p 52 (f.r 2)).p 46 v3).p 50 v30).p 53 v63).p 51 v72).p 47 v75).p 16 v75).p 17 v72).p 18 v63) h76 [] K))))))))))) ∧ ((((1 * 1 : Nat) ≤ 16777216 ∧ (1 : Nat) ≤ 16777216 ∧ List.length [(Value.string { data := #[] })] = 1) ∧ aH (aV [(Value.string { data := #[] })] 1) [(0,1,(f.r 2))] fun c77 =>
aX 1 c77 h4 fun v78 h79 =>
aG (some B) h h79 ∧ (((((2 * 6 : Nat) ≤ 16777216 ∧ (2 : Nat) ≤ 16777216 ∧ List.length [(ab 0),(ab 0),(ab 0),(ab 0),(ab 0),(ab 0)] = 6) ∧ aH (aV [(ab 0),(ab 0),(ab 0),(ab 0),(ab 0),(ab 0)] 2) [(0,6,v1),(6,6,v3)] fun c80 =>
aX 2 c80 h79 fun v81 h82 =>
aG (some B) h h82 ∧ (Good prog J 8 [(f.r 15),(ab 8)] h82 fun v83 h84 =>
aG (some B) h h84 ∧ ((((2 * 3 : Nat) ≤ 16777216 ∧ (2 : Nat) ≤ 16777216 ∧ List.length [(ab 0),(ab 0),(ab 0)] = 3) ∧ aH (aV [(ab 0),(ab 0),(ab 0)] 2) [(0,3,v2),(3,3,v83)] fun c85 =>
aX 2 c85 h84 fun v86 h87 =>
aG (some B) h h87 ∧ (bh (w3 J n0 [1,1,1,1] (((((((((((((f.p 44 v1).p 45 (f.r 15)).p 48 v2).p 49 (f.r 15)).p 52 (f.r 2)).p 46 v3).p 53 v78).p 47 v81).p 50 v83).p 16 v81).p 51 v86).p 17 v86).p 18 v78) h87 [] K))))))) ∧ (Good prog J 8 [(f.r 15),(ab 8)] h79 fun v88 h89 =>
aG (some B) h h89 ∧ (((((2 * 6 : Nat) ≤ 16777216 ∧ (2 : Nat) ≤ 16777216 ∧ List.length [(ab 0),(ab 0),(ab 0),(ab 0),(ab 0),(ab 0)] = 6) ∧ aH (aV [(ab 0),(ab 0),(ab 0),(ab 0),(ab 0),(ab 0)] 2) [(0,6,v1),(6,6,v3)] fun c90 =>
aX 2 c90 h89 fun v91 h92 =>
aG (some B) h h92 ∧ ((((2 * 3 : Nat) ≤ 16777216 ∧ (2 : Nat) ≤ 16777216 ∧ List.length [(ab 0),(ab 0),(ab 0)] = 3) ∧ aH (aV [(ab 0),(ab 0),(ab 0)] 2) [(0,3,v2),(3,3,v88)] fun c93 =>
aX 2 c93 h92 fun v94 h95 =>
aG (some B) h h95 ∧ (bh (w3 J n0 [1,1,1,1] (((((((((((((f.p 44 v1).p 45 (f.r 15)).p 48 v2).p 49 (f.r 15)).p 52 (f.r 2)).p 46 v3).p 53 v78).p 50 v88).p 47 v91).p 16 v91).p 51 v94).p 17 v94).p 18 v78) h95 [] K)))))) ∧ ((((2 * 3 : Nat) ≤ 16777216 ∧ (2 : Nat) ≤ 16777216 ∧ List.length [(ab 0),(ab 0),(ab 0)] = 3) ∧ aH (aV [(ab 0),(ab 0),(ab 0)] 2) [(0,3,v2),(3,3,v88)] fun c96 =>
aX 2 c96 h89 fun v97 h98 =>
aG (some B) h h98 ∧ ((((2 * 6 : Nat) ≤ 16777216 ∧ (2 : Nat) ≤ 16777216 ∧ List.length [(ab 0),(ab 0),(ab 0),(ab 0),(ab 0),(ab 0)] = 6) ∧ aH (aV [(ab 0),(ab 0),(ab 0),(ab 0),(ab 0),(ab 0)] 2) [(0,6,v1),(6,6,v3)] fun c99 =>
aX 2 c99 h98 fun v100 h101 =>
aG (some B) h h101 ∧ (bh (w3 J n0 [1,1,1,1] (((((((((((((f.p 44 v1).p 45 (f.r 15)).p 48 v2).p 49 (f.r 15)).p 52 (f.r 2)).p 46 v3).p 53 v78).p 50 v88).p 51 v97).p 47 v100).p 16 v100).p 17 v97).p 18 v78) h101 [] K))))))))))))) ∧ ((((1 * 1 : Nat) ≤ 16777216 ∧ (1 : Nat) ≤ 16777216 ∧ List.length [(Value.string { data := #[] })] = 1) ∧ aH (aV [(Value.string { data := #[] })] 1) [(0,1,(f.r 2))] fun c102 =>
aX 1 c102 h fun v103 h104 =>
aG (some B) h h104 ∧ (Good prog J 7 [(f.r 15)] h104 fun v105 h106 =>
aG (some B) h h106 ∧ (((((2 * 6 : Nat) ≤ 16777216 ∧ (2 : Nat) ≤ 16777216 ∧ List.length [(ab 0),(ab 0),(ab 0),(ab 0),(ab 0),(ab 0)] = 6) ∧ aH (aV [(ab 0),(ab 0),(ab 0),(ab 0),(ab 0),(ab 0)] 2) [(0,6,v1),(6,6,v105)] fun c107 =>
aX 2 c107 h106 fun v108 h109 =>
aG (some B) h h109 ∧ (Good prog J 8 [(f.r 15),(ab 8)] h109 fun v110 h111 =>
aG (some B) h h111 ∧ ((((2 * 3 : Nat) ≤ 16777216 ∧ (2 : Nat) ≤ 16777216 ∧ List.length [(ab 0),(ab 0),(ab 0)] = 3) ∧ aH (aV [(ab 0),(ab 0),(ab 0)] 2) [(0,3,v2),(3,3,v110)] fun c112 =>
aX 2 c112 h111 fun v113 h114 =>
aG (some B) h h114 ∧ (bh (w3 J n0 [1,1,1,1] (((((((((((((f.p 44 v1).p 45 (f.r 15)).p 48 v2).p 49 (f.r 15)).p 52 (f.r 2)).p 53 v103).p 46 v105).p 47 v108).p 50 v110).p 16 v108).p 51 v113).p 17 v113).p 18 v103) h114 [] K))))))) ∧ (Good prog J 8 [(f.r 15),(ab 8)] h106 fun v115 h116 =>
aG (some B) h h116 ∧ (((((2 * 6 : Nat) ≤ 16777216 ∧ (2 : Nat) ≤ 16777216 ∧ List.length [(ab 0),(ab 0),(ab 0),(ab 0),(ab 0),(ab 0)] = 6) ∧ aH (aV [(ab 0),(ab 0),(ab 0),(ab 0),(ab 0),(ab 0)] 2) [(0,6,v1),(6,6,v105)] fun c117 =>
aX 2 c117 h116 fun v118 h119 =>
aG (some B) h h119 ∧ ((((2 * 3 : Nat) ≤ 16777216 ∧ (2 : Nat) ≤ 16777216 ∧ List.length [(ab 0),(ab 0),(ab 0)] = 3) ∧ aH (aV [(ab 0),(ab 0),(ab 0)] 2) [(0,3,v2),(3,3,v115)] fun c120 =>
aX 2 c120 h119 fun v121 h122 =>
aG (some B) h h122 ∧ (bh (w3 J n0 [1,1,1,1] (((((((((((((f.p 44 v1).p 45 (f.r 15)).p 48 v2).p 49 (f.r 15)).p 52 (f.r 2)).p 53 v103).p 46 v105).p 50 v115).p 47 v118).p 16 v118).p 51 v121).p 17 v121).p 18 v103) h122 [] K)))))) ∧ ((((2 * 3 : Nat) ≤ 16777216 ∧ (2 : Nat) ≤ 16777216 ∧ List.length [(ab 0),(ab 0),(ab 0)] = 3) ∧ aH (aV [(ab 0),(ab 0),(ab 0)] 2) [(0,3,v2),(3,3,v115)] fun c123 =>
aX 2 c123 h116 fun v124 h125 =>
aG (some B) h h125 ∧ ((((2 * 6 : Nat) ≤ 16777216 ∧ (2 : Nat) ≤ 16777216 ∧ List.length [(ab 0),(ab 0),(ab 0),(ab 0),(ab 0),(ab 0)] = 6) ∧ aH (aV [(ab 0),(ab 0),(ab 0),(ab 0),(ab 0),(ab 0)] 2) [(0,6,v1),(6,6,v105)] fun c126 =>
aX 2 c126 h125 fun v127 h128 =>
aG (some B) h h128 ∧ (bh (w3 J n0 [1,1,1,1] (((((((((((((f.p 44 v1).p 45 (f.r 15)).p 48 v2).p 49 (f.r 15)).p 52 (f.r 2)).p 53 v103).p 46 v105).p 50 v115).p 51 v124).p 47 v127).p 16 v127).p 17 v124).p 18 v103) h128 [] K)))))))))))))))) := sub_eq pok3 ct3 (by kernel_rfl)
theorem s3_4 {f : RG} : w3 J n0 [1,1,1,1] f h [] K =
(Sem J 151 n0 3 (aw yp8 (codeOf f3)) (f.p 19 (ab 0)) h (aA pl3 prog J 151 n0 3 ct3 yp8 (codeOf f3) [] (aq prog [.tmp 14] n0 K))) := sub_eq pok3 ct3 (by kernel_rfl)
theorem s3_5 {f : RG} {nx0 : RG → List af → Prop} : W prog J 151 n0 3 (aw [1,1,1,1,0,1,0,0] (codeOf f3)) f h (bc nx0 (aA pl3 prog J 151 n0 3 ct3 yp8 (codeOf f3) [] (aq prog [.tmp 14] n0 K))) =
(b0 (f.r 16) fun v1 =>
aj prog .lss 3 (f.r 19) v1 fun v2 =>
cnd v2
(bT 6 (f.r 16) (f.r 19) fun v3 =>
ai true 6 v3 h fun v4 =>
bT 3 (f.r 17) (f.r 19) fun v5 =>
ai true 3 v5 h fun v6 =>
Good prog J 9 [v4,v6] h fun v7 h8 =>
bL v7 0 fun v9 =>
bL v7 1 fun v10 =>
bh (w3 J n0 yp33 ((((((((((((((((((f.p 54 (f.r 19)).p 55 (f.r 16)).p 56 v1).p 57 v2).p 61 (f.r 16)).p 62 (f.r 19)).p 63 v3).p 64 v4).p 65 (f.r 17)).p 66 (f.r 19)).p 67 v5).p 68 v6).p 69 v7).p 60 v7).p 70 v9).p 71 v10).p 20 v9).p 21 v10) h8 [nx0] K))
(bh (w3 J n0 yp6 ((((f.p 54 (f.r 19)).p 55 (f.r 16)).p 56 v1).p 57 v2) h [] K))) := sub_eq pok3 ct3 (by kernel_rfl)
theorem l3_5 (hJ : Closed prog main J) {S : Type} (μ : S → Nat) (I : S → RG → List af → Prop) (hI : ∀ s f h,I s f h → aD h → n0 ≤ h.length → W prog J 151 n0 3 (aw [1,1,1,1,0,1,0,0] (codeOf f3)) f h (bc (Nx n0 μ I s) (aA pl3 prog J 151 n0 3 ct3 yp8 (codeOf f3) [] (aq prog [.tmp 14] n0 K))))
 {s : S} {f : RG} (hi : dJ n0 I s f h) : Sem J 151 n0 3 (aw yp8 (codeOf f3)) f h (aA pl3 prog J 151 n0 3 ct3 yp8 (codeOf f3) [] (aq prog [.tmp 14] n0 K)) :=
 bn hJ mixed (b := aw [1,1,1,1,0,1,0,0] (codeOf f3)) (by kernel_rfl) μ I hI hi
theorem s3_6 {f : RG} {nx0 : RG → List af → Prop} : w3 J n0 yp33 f h [nx0] K =
(bT 6 (f.r 16) (f.r 19) fun v1 =>
ai true 6 v1 h fun v2 =>
bT 3 (f.r 17) (f.r 19) fun v3 =>
ai true 3 v3 h fun v4 =>
Good prog J 10 [v2,v4] h fun v5 h6 =>
bL v5 0 fun v7 =>
bL v5 1 fun v8 =>
bh (w3 J n0 yp34 ((((((((((((((f.p 73 (f.r 16)).p 74 (f.r 19)).p 75 v1).p 76 v2).p 77 (f.r 17)).p 78 (f.r 19)).p 79 v3).p 80 v4).p 81 v5).p 72 v5).p 82 v7).p 83 v8).p 22 v7).p 23 v8) h6 [nx0] K)) := sub_eq pok3 ct3 (by kernel_rfl)
theorem s3_7 {f : RG} : w3 J n0 yp6 f h [] K =
(bT 1 (f.r 18) (ab 2) fun v1 =>
ai false 1 v1 h fun v2 =>
Good prog J 11 [v2,(f.r 4),(f.r 5),(f.r 6)] h fun v3 h4 =>
(((1 * 1 : Nat) ≤ 16777216 ∧ (1 : Nat) ≤ 16777216 ∧ List.length [(Value.string { data := #[] })] = 1) ∧ aH (aV [(Value.string { data := #[] })] 1) [(0,1,v3)] fun c5 =>
aX 1 c5 h4 fun v6 h7 =>
((List.length [(Value.string { data := #[] })] = 1 ∧ 0 < (1 : Nat) ∧ 0 < (16 : Nat) ∧ (16 : Nat) ≤ 1024) ∧ aApp 1 (f.r 18) v6 h7 fun v8 h9 =>
bh (w3 J n0 yp7 (((((((((((f.p 96 (f.r 18)).p 97 (f.r 18)).p 98 v1).p 99 v2).p 100 (f.r 4)).p 101 (f.r 5)).p 102 (f.r 6)).p 103 v3).p 104 v6).p 105 v8).p 18 v8) h9 [] K)))) := sub_eq pok3 ct3 (by kernel_rfl)
theorem s3_8 {f : RG} {nx0 : RG → List af → Prop} : w3 J n0 yp34 f h [nx0] K =
(aj prog .neq 9 (f.r 20) (f.r 22) fun v1 =>
cnd v1
(bh (w3 J n0 yp21 (((((((((f.p 84 (f.r 20)).p 85 (f.r 22)).p 86 v1).p 87 v1).p 87 (Value.bool true)).p 88 undef).p 89 undef).p 90 undef).p 91 (Value.bool true)) h [nx0] K))
(aj prog .neq 35 (f.r 21) (f.r 23) fun v2 =>
bh (w3 J n0 yp21 (((((((((f.p 84 (f.r 20)).p 85 (f.r 22)).p 86 v1).p 87 v1).p 87 (Value.bool false)).p 88 (f.r 21)).p 89 (f.r 23)).p 90 v2).p 91 v2) h [nx0] K))) := sub_eq pok3 ct3 (by kernel_rfl)
theorem s3_9 {f : RG} : w3 J n0 yp7 f h [] K =
(Sem J 151 n0 3 (aw yp35 (codeOf f3)) (f.p 24 (ab 0)) h (aA pl3 prog J 151 n0 3 ct3 yp35 (codeOf f3) [] (aq prog [.tmp 14] n0 K))) := sub_eq pok3 ct3 (by kernel_rfl)
theorem s3_10 {f : RG} {nx0 : RG → List af → Prop} : w3 J n0 yp21 f h [nx0] K =
(cnd (f.r 91)
(aI n0 K f.ds [(Value.bool false)] h)
((((1 * 1 : Nat) ≤ 16777216 ∧ (1 : Nat) ≤ 16777216 ∧ List.length [(Value.string { data := #[] })] = 1) ∧ aH (aV [(Value.string { data := #[] })] 1) [(0,1,(f.r 22))] fun c1 =>
aX 1 c1 h fun v2 h3 =>
((List.length [(Value.string { data := #[] })] = 1 ∧ 0 < (1 : Nat) ∧ 0 < (16 : Nat) ∧ (16 : Nat) ≤ 1024) ∧ aApp 1 (f.r 18) v2 h3 fun v4 h5 =>
aj prog .add 3 (f.r 19) (ab 1) fun v6 =>
nx0 ((((((((f.p 92 (f.r 18)).p 93 (f.r 22)).p 94 v2).p 95 v4).p 18 v4).p 58 (f.r 19)).p 59 v6).p 19 v6) h5)))) := sub_eq pok3 ct3 (by kernel_rfl)
theorem s3_11 {f : RG} {nx0 : RG → List af → Prop} : W prog J 151 n0 3 (aw [1,1,1,1,1,1,0,1,0,0] (codeOf f3)) f h (bc nx0 (aA pl3 prog J 151 n0 3 ct3 yp35 (codeOf f3) [] (aq prog [.tmp 14] n0 K))) =
(b0 (f.r 18) fun v1 =>
aj prog .lss 3 (f.r 24) v1 fun v2 =>
cnd v2
(bT 1 (f.r 18) (f.r 24) fun v3 =>
ai false 1 v3 h fun v4 =>
Good prog J 12 [v4] h fun v5 h6 =>
bL v5 0 fun v7 =>
bL v5 1 fun v8 =>
bL v5 2 fun v9 =>
bL v5 3 fun v10 =>
bo [(ab 0),(ab 0),(ab 0),(ab 0),(ab 0),(ab 0)] h6 fun v11 h12 =>
bo [(ab 0),(ab 0),(ab 0)] h12 fun v13 h14 =>
aB 6 v11 v7 h14 fun h15 =>
aB 3 v13 v8 h15 fun h16 =>
bh (w3 J n0 yp36 ((((((((((((((((((f.p 106 (f.r 24)).p 107 (f.r 18)).p 108 v1).p 109 v2).p 113 (f.r 18)).p 114 (f.r 24)).p 115 v3).p 116 v4).p 117 v5).p 112 v5).p 118 v7).p 119 v8).p 120 v9).p 121 v10).p 25 v11).p 26 v13).p 27 v9).p 28 v10) h16 [nx0] K))
(bh (w3 J n0 [1,1,1,1,1,1,1] ((((f.p 106 (f.r 24)).p 107 (f.r 18)).p 108 v1).p 109 v2) h [] K))) := sub_eq pok3 ct3 (by kernel_rfl)
theorem l3_11 (hJ : Closed prog main J) {S : Type} (μ : S → Nat) (I : S → RG → List af → Prop) (hI : ∀ s f h,I s f h → aD h → n0 ≤ h.length → W prog J 151 n0 3 (aw [1,1,1,1,1,1,0,1,0,0] (codeOf f3)) f h (bc (Nx n0 μ I s) (aA pl3 prog J 151 n0 3 ct3 yp35 (codeOf f3) [] (aq prog [.tmp 14] n0 K))))
 {s : S} {f : RG} (hi : dJ n0 I s f h) : Sem J 151 n0 3 (aw yp35 (codeOf f3)) f h (aA pl3 prog J 151 n0 3 ct3 yp35 (codeOf f3) [] (aq prog [.tmp 14] n0 K)) :=
 bn hJ mixed (b := aw [1,1,1,1,1,1,0,1,0,0] (codeOf f3)) (by kernel_rfl) μ I hI hi
theorem s3_12 {f : RG} {nx0 : RG → List af → Prop} : w3 J n0 yp36 f h [nx0] K =
(bT 1 (f.r 18) (f.r 24) fun v1 =>
ai false 1 v1 h fun v2 =>
Good prog J 13 [v2] h fun v3 h4 =>
bL v3 0 fun v5 =>
bL v3 1 fun v6 =>
bL v3 2 fun v7 =>
bL v3 3 fun v8 =>
bo [(ab 0),(ab 0),(ab 0),(ab 0),(ab 0),(ab 0)] h4 fun v9 h10 =>
bo [(ab 0),(ab 0),(ab 0)] h10 fun v11 h12 =>
aB 6 v9 v5 h12 fun h13 =>
aB 3 v11 v6 h13 fun h14 =>
bh (w3 J n0 yp37 ((((((((((((((f.p 123 (f.r 18)).p 124 (f.r 24)).p 125 v1).p 126 v2).p 127 v3).p 122 v3).p 128 v5).p 129 v6).p 130 v7).p 131 v8).p 29 v9).p 30 v11).p 31 v7).p 32 v8) h14 [nx0] K)) := sub_eq pok3 ct3 (by kernel_rfl)
theorem s3_13 {f : RG} : w3 J n0 [1,1,1,1,1,1,1] f h [] K =
(Good prog J 5 [] h fun v1 h2 =>
aI n0 K f.ds [v1] h2) := sub_eq pok3 ct3 (by kernel_rfl)
theorem s3_14 {f : RG} {nx0 : RG → List af → Prop} : w3 J n0 yp37 f h [nx0] K =
(ai true 6 (f.r 25) h fun v1 =>
ai true 6 (f.r 29) h fun v2 =>
aj prog .neq 23 v1 v2 fun v3 =>
cnd v3
(bh (w3 J n0 yp9 (((((((((((((((((((((f.p 132 v1).p 133 v2).p 134 v3).p 135 v3).p 135 (Value.bool true)).p 136 undef).p 137 undef).p 138 undef).p 139 (Value.bool true)).p 140 (Value.bool true)).p 140 (Value.bool true)).p 141 undef).p 142 undef).p 143 undef).p 144 (Value.bool true)).p 145 (Value.bool true)).p 145 (Value.bool true)).p 146 undef).p 147 undef).p 148 undef).p 149 (Value.bool true)) h [nx0] K))
(ai true 3 (f.r 26) h fun v4 =>
ai true 3 (f.r 30) h fun v5 =>
aj prog .neq 25 v4 v5 fun v6 =>
cnd v6
(bh (w3 J n0 yp9 (((((((((((((((((((((f.p 132 v1).p 133 v2).p 134 v3).p 135 v3).p 135 (Value.bool false)).p 136 v4).p 137 v5).p 138 v6).p 139 v6).p 140 v6).p 140 (Value.bool true)).p 141 undef).p 142 undef).p 143 undef).p 144 (Value.bool true)).p 145 (Value.bool true)).p 145 (Value.bool true)).p 146 undef).p 147 undef).p 148 undef).p 149 (Value.bool true)) h [nx0] K))
(aj prog .neq 3 (f.r 27) (f.r 31) fun v7 =>
cnd v7
(bh (w3 J n0 yp9 (((((((((((((((((((((f.p 132 v1).p 133 v2).p 134 v3).p 135 v3).p 135 (Value.bool false)).p 136 v4).p 137 v5).p 138 v6).p 139 v6).p 140 v6).p 140 (Value.bool false)).p 141 (f.r 27)).p 142 (f.r 31)).p 143 v7).p 144 v7).p 145 v7).p 145 (Value.bool true)).p 146 undef).p 147 undef).p 148 undef).p 149 (Value.bool true)) h [nx0] K))
(aj prog .neq 35 (f.r 28) (f.r 32) fun v8 =>
bh (w3 J n0 yp9 (((((((((((((((((((((f.p 132 v1).p 133 v2).p 134 v3).p 135 v3).p 135 (Value.bool false)).p 136 v4).p 137 v5).p 138 v6).p 139 v6).p 140 v6).p 140 (Value.bool false)).p 141 (f.r 27)).p 142 (f.r 31)).p 143 v7).p 144 v7).p 145 v7).p 145 (Value.bool false)).p 146 (f.r 28)).p 147 (f.r 32)).p 148 v8).p 149 v8) h [nx0] K))))) := sub_eq pok3 ct3 (by kernel_rfl)
theorem s3_15 {f : RG} {nx0 : RG → List af → Prop} : w3 J n0 yp9 f h [nx0] K =
(cnd (f.r 149)
(aI n0 K f.ds [(Value.bool false)] h)
(aj prog .add 3 (f.r 24) (ab 1) fun v1 =>
nx0 (((f.p 110 (f.r 24)).p 111 v1).p 24 v1) h)) := sub_eq pok3 ct3 (by kernel_rfl)
end
end Go.Proofs.YtlhanfcgdfjhjaaGreatDoor
namespace Go.Proofs.YtlhanfcgdfjhjaaGreatDoor
open Go.Conc Go.Proofs.Tryz
set_option maxRecDepth 100000
def wrG (p : Pas) (s : aU) : List UInt8 × Int := if cQ (bR p) (cd s) = 0 then (textP p s,0) else ([],cQ (bR p) (cd s))
theorem wrG_len (p : Pas) (s : aU) : (wrG p s).1.length ≤ 110 := by
 unfold wrG
 split
 ·exact textP_len p s
 ·exact Nat.zero_le _
section
variable {main : Bool} {J : JT} {H : List af} {K : Value → List af → Prop} {p : Pas} {s : aU}
theorem wrK (hK : ∀ H',ag [] H H' → K (.tuple ⟨[ay (wrG p s).1,ab (wrG p s).2]⟩) H') : (∀ H',cQ (bR p) (cd s) ≠ 0 → ag [] H H' → K (.tuple ⟨[ay [],ab (cQ (bR p) (cd s))]⟩) H') ∧ (∀ H',cQ (bR p) (cd s) = 0 → ag [] H H' → K (.tuple ⟨[ay (textP p s),ab 0]⟩) H') := by
 refine ⟨fun H' h S => ?_,fun H' h S => ?_⟩
 ·have := hK H' S
  unfold wrG at this
  rw [if_neg h] at this
  exact this
 ·have := hK H' S
  unfold wrG at this
  rw [if_pos h] at this
  exact this
theorem good9g (hJ : Closed prog main J) (hK : ∀ H',ag [] H H' → K (.tuple ⟨[ay (wrG p s).1,ab (wrG p s).2]⟩) H') : Good prog J 9 [.agg ⟨p.cells⟩,.agg ⟨s.cells⟩] H K := good9 hJ (wrK hK).1 (wrK hK).2
theorem good10g (hJ : Closed prog main J) (hK : ∀ H',ag [] H H' → K (.tuple ⟨[ay (wrG p s).1,ab (wrG p s).2]⟩) H') : Good prog J 10 [.agg ⟨p.cells⟩,.agg ⟨s.cells⟩] H K := good10 hJ (wrK hK).1 (wrK hK).2
end
structure KnG (Hb H0 : List af) (ns : List Int) (p : Pas) (s : aU) (text : List UInt8) (q : Option Pas) (t : Option aU) (b1 b2 b3 : Option Nat) (k : Nat) (H : List af) : Prop where
 hx : HX Hb H ns k
 S : ag [Hb.length] H0 H
 pok : ∀ x,q = some x → cA x
 sok : ∀ x,t = some x → cL x
 c1 : ∀ b,b1 = some b → Hb.length < b ∧ ∃ x,q = some x ∧ H[b]? = some (.cells ([p,x].flatMap Pas.cells) true 0)
 c2 : ∀ b,b2 = some b → Hb.length < b ∧ ∃ x,t = some x ∧ H[b]? = some (.cells ([s,x].flatMap aU.cells) true 0)
 c3 : ∀ b,b3 = some b → Hb.length < b ∧ H[b]? = some (.cells [ay text] true 0)
section
variable {main : Bool} {J : JT} {Hb H0 H H' : List af} {ns : List Int} {p x : Pas} {s y : aU} {text : List UInt8} {q : Option Pas} {t : Option aU} {b1 b2 b3 : Option Nat} {k : Nat} {K : Value → List af → Prop}
theorem KnG.keep {k' : Nat} (M : KnG Hb H0 ns p s text q t b1 b2 b3 k H) (S : ag [Hb.length] H H') (hx : HX Hb H' ns k') : KnG Hb H0 ns p s text q t b1 b2 b3 k' H' := by
 have no : ∀ {b : Nat},Hb.length < b → b ∉ [Hb.length] := fun h => by simp; omega
 refine ⟨hx,M.S.trans S,M.pok,M.sok,fun b hb => ?_,fun b hb => ?_,fun b hb => ?_⟩
 ·obtain ⟨h1,x,h2,h3⟩ := M.c1 b hb
  exact ⟨h1,x,h2,S.get h3 (no h1)⟩
 ·obtain ⟨h1,x,h2,h3⟩ := M.c2 b hb
  exact ⟨h1,x,h2,S.get h3 (no h1)⟩
 ·obtain ⟨h1,h3⟩ := M.c3 b hb
  exact ⟨h1,S.get h3 (no h1)⟩
theorem KnG.sb {x7 x8 : Nat} (M : KnG Hb H0 ns p s text q t b1 b2 b3 k H) (h7 : x7 < Hb.length) (h8 : x8 < Hb.length) (hl : Hb.length ≤ H0.length) : aG (some [x7,x8]) H0 H := fun x hx => by
 simp only [List.mem_cons,List.not_mem_nil,or_false] at hx
 rcases hx with rfl | rfl
 ·exact M.S.2 _ (by omega) (by simp; omega)
 ·exact M.S.2 _ (by omega) (by simp; omega)
theorem stP (hJ : Closed prog main J) (M : KnG Hb H0 ns p s text none t b1 b2 b3 k H) (hk : k < 400000) (hn : ∀ x H',KnG Hb H0 ns p s text (some x) t b1 b2 b3 (k + 12) H' → K (.agg ⟨Pas.cells x⟩) H') : Good prog J 7 [ptr Hb.length 0] H K := by
 refine good7 hJ M.hx hk fun x H' hx _ S a => hn x H' ?_
 have N := M.keep S a
 refine ⟨N.hx,N.S,fun z hz => ?_,N.sok,fun b hb => ?_,N.c2,N.c3⟩
 ·cases hz
  exact hx
 ·obtain ⟨_,z,hz,_⟩ := M.c1 b hb
  cases hz
theorem stS (hJ : Closed prog main J) (M : KnG Hb H0 ns p s text q none b1 b2 b3 k H) (hk : k < 400000) (hn : ∀ x H',KnG Hb H0 ns p s text q (some x) b1 b2 b3 (k + 3) H' → K (.agg ⟨aU.cells x⟩) H') : Good prog J 8 [ptr Hb.length 0,ab 8] H K := by
 refine good8 hJ M.hx hk (by decide) fun x H' hx _ S a => hn x H' ?_
 have N := M.keep S a
 refine ⟨N.hx,N.S,N.pok,fun z hz => ?_,N.c1,fun b hb => ?_,N.c3⟩
 ·cases hz
  exact hx
 ·obtain ⟨_,z,hz,_⟩ := M.c2 b hb
  cases hz
theorem w6Z {p x : Pas} : dL (dL (aV [ab 0,ab 0,ab 0,ab 0,ab 0,ab 0] 2) 0 p.cells) 6 x.cells = [p,x].flatMap Pas.cells := by kernel_rfl
theorem w3Z {p x : aU} : dL (dL (aV [ab 0,ab 0,ab 0] 2) 0 p.cells) 3 x.cells = [p,x].flatMap aU.cells := by kernel_rfl
theorem stB1 (M : KnG Hb H0 ns p s text (some x) t none b2 b3 k H) (hn : ∀ b H',KnG Hb H0 ns p s text (some x) t (some b) b2 b3 k H' → K (.slice (some ⟨b,0,none⟩) 2 2) H') :
  ((2 * 6 : Nat) ≤ 16777216 ∧ (2 : Nat) ≤ 16777216 ∧ List.length [(ab 0),(ab 0),(ab 0),(ab 0),(ab 0),(ab 0)] = 6) ∧ aH (aV [(ab 0),(ab 0),(ab 0),(ab 0),(ab 0),(ab 0)] 2) [(0,6,.agg ⟨p.cells⟩),(6,6,.agg ⟨x.cells⟩)] fun c => aX 2 c H K := by
 refine ⟨by decide,aK (l := p.cells) rfl rfl rfl (Nat.le_of_ble_eq_true rfl) (aK (l := x.cells) rfl rfl rfl (Nat.le_of_ble_eq_true (by kernel_rfl)) (bu (du fun H' b e S c _ => hn b H' ?_)))⟩
 rw [w6Z] at c
 have N := M.keep S.bN (M.hx.same S (by simp))
 exact ⟨N.hx,N.S,N.pok,N.sok,fun b' hb => by cases hb; exact ⟨by have := hxLt M.hx; omega,x,rfl,c⟩,N.c2,N.c3⟩
theorem stB2 (M : KnG Hb H0 ns p s text q (some y) b1 none b3 k H) (hn : ∀ b H',KnG Hb H0 ns p s text q (some y) b1 (some b) b3 k H' → K (.slice (some ⟨b,0,none⟩) 2 2) H') :
  ((2 * 3 : Nat) ≤ 16777216 ∧ (2 : Nat) ≤ 16777216 ∧ List.length [(ab 0),(ab 0),(ab 0)] = 3) ∧ aH (aV [(ab 0),(ab 0),(ab 0)] 2) [(0,3,.agg ⟨s.cells⟩),(3,3,.agg ⟨y.cells⟩)] fun c => aX 2 c H K := by
 refine ⟨by decide,aK (l := s.cells) rfl rfl rfl (Nat.le_of_ble_eq_true rfl) (aK (l := y.cells) rfl rfl rfl (Nat.le_of_ble_eq_true (by kernel_rfl)) (bu (du fun H' b e S c _ => hn b H' ?_)))⟩
 rw [w3Z] at c
 have N := M.keep S.bN (M.hx.same S (by simp))
 exact ⟨N.hx,N.S,N.pok,N.sok,N.c1,fun b' hb => by cases hb; exact ⟨by have := hxLt M.hx; omega,y,rfl,c⟩,N.c3⟩
theorem stB3 (M : KnG Hb H0 ns p s text q t b1 b2 none k H) (hn : ∀ b H',KnG Hb H0 ns p s text q t b1 b2 (some b) k H' → K (.slice (some ⟨b,0,none⟩) 1 1) H') :
  ((1 * 1 : Nat) ≤ 16777216 ∧ (1 : Nat) ≤ 16777216 ∧ List.length [(Value.string { data := #[] })] = 1) ∧ aH (aV [(Value.string { data := #[] })] 1) [(0,1,ay text)] fun c => aX 1 c H K := by
 refine ⟨by decide,aK (l := [ay text]) rfl rfl rfl (Nat.le_of_ble_eq_true rfl) (bu (du fun H' b e S c _ => hn b H' ?_))⟩
 have c : H'[b]? = some (.cells [ay text] true 0) := c
 have N := M.keep S.bN (M.hx.same S (by simp))
 exact ⟨N.hx,N.S,N.pok,N.sok,N.c1,N.c2,fun b' hb => by cases hb; exact ⟨by have := hxLt M.hx; omega,c⟩⟩
variable {F : RG} {n0 : Nat}
set_option maxHeartbeats 4000000 in
theorem front3 (hJ : Closed prog main J) {x7 x8 : Nat} (r2 : F.r 2 = ay text) (r7 : F.r 7 = ptr x7 0) (r8 : F.r 8 = ptr x8 0) (r15 : F.r 15 = ptr Hb.length 0) (c7 : H[x7]? = some (.cells p.cells true 0)) (c8 : H[x8]? = some (.cells s.cells true 0)) (l7 : x7 < Hb.length) (l8 : x8 < Hb.length)
  (a : HX Hb H ns 0)
  (fin : ∀ {F' : RG} {H' : List af} {x : Pas} {y : aU} {b1 b2 b3 k : Nat},KnG Hb H ns p s text (some x) (some y) (some b1) (some b2) (some b3) k H' → F'.ds = F.ds → F'.r 4 = F.r 4 → F'.r 5 = F.r 5 → F'.r 6 = F.r 6 → F'.r 16 = .slice (some ⟨b1,0,none⟩) 2 2 → F'.r 17 = .slice (some ⟨b2,0,none⟩) 2 2 → F'.r 18 = .slice (some ⟨b3,0,none⟩) 1 1 →
   w3 J n0 [1,1,1,1] F' H' [] K) :
  w3 J n0 [1,1,1] F H [] K := by
 rw [s3_3]
 simp only [r2,r7,r8,r15]
 have hlH : Hb.length ≤ H.length := Nat.le_of_lt (hxLt a)
 have M0 : KnG Hb H ns p s text none none none none none 0 H := ⟨a,ag.refl,fun x e => (by cases e),fun x e => (by cases e),fun x e => (by cases e),fun x e => (by cases e),fun x e => by cases e⟩
 refine ⟨[x7,x8],ar (c := p.cells) c7 (by simp [Pas.cells]) rfl rfl ⟨by simp [aR,au],ar (c := s.cells) c8 (by simp [aU.cells]) rfl rfl ⟨by simp [aR,au],?_⟩⟩⟩
 repeat' first
  | exact hold.2 (fin (by assumption) rfl rfl rfl rfl rfl rfl rfl)
  | refine stP hJ (by assumption) (by omega) fun _ _ N => ⟨N.sb l7 l8 hlH,?_⟩
  | refine stS hJ (by assumption) (by omega) fun _ _ N => ⟨N.sb l7 l8 hlH,?_⟩
  | refine stB1 (by assumption) fun _ _ N => ⟨N.sb l7 l8 hlH,?_⟩
  | refine stB2 (by assumption) fun _ _ N => ⟨N.sb l7 l8 hlH,?_⟩
  | refine stB3 (by assumption) fun _ _ N => ⟨N.sb l7 l8 hlH,?_⟩
  | refine ⟨?_,?_⟩
end
section
variable {W0 : World} {Post : Value → World → Prop} {h H H' : List af} {K : Value → List af → Prop} {KV : Value → Prop} {F : RG} {n0 : Nat} {p q : Pas} {s t : aU}
def ofTwo {α : Type} (a b : α) (i : Nat) : α := if i = 0 then a else b
theorem two6 {b i : Nat} {KV : Value → Value → Prop} (hb : H[b]? = some (.cells ([p,q].flatMap Pas.cells) true 0)) (hi : i < 2) (hk : ∀ v,KV v (.agg ⟨(ofTwo p q i).cells⟩)) :
  bT 6 (.slice (some ⟨b,0,none⟩) 2 2) (ab (i : Nat)) fun v => ai true 6 v H (KV v) := by
 refine idxI ⟨by omega,by omega⟩ ?_
 match i,hi with
 | 0,_ => exact ar (c := p.cells) hb (Nat.le_of_ble_eq_true rfl) rfl rfl (hk _)
 | 1,_ => exact ar (c := q.cells) hb (Nat.le_of_ble_eq_true rfl) rfl rfl (hk _)
theorem two3 {b i : Nat} {KV : Value → Value → Prop} (hb : H[b]? = some (.cells ([s,t].flatMap aU.cells) true 0)) (hi : i < 2) (hk : ∀ v,KV v (.agg ⟨(ofTwo s t i).cells⟩)) :
  bT 3 (.slice (some ⟨b,0,none⟩) 2 2) (ab (i : Nat)) fun v => ai true 3 v H (KV v) := by
 refine idxI ⟨by omega,by omega⟩ ?_
 match i,hi with
 | 0,_ => exact ar (c := s.cells) hb (Nat.le_of_ble_eq_true rfl) rfl rfl (hk _)
 | 1,_ => exact ar (c := t.cells) hb (Nat.le_of_ble_eq_true rfl) rfl rfl (hk _)
theorem neqKs {t : TypeId} {k : Int} (hk : KV (.bool false)) : aj prog .neq t (ab k) (ab k) KV := neqI (by rw [decide_eq_false (fun h => absurd rfl h)]; exact hk)
theorem neSs {t : TypeId} {a : List UInt8} (hk : KV (.bool false)) : aj prog .neq t (ay a) (ay a) KV := neS (by rw [decide_eq_false (fun h => absurd rfl h)]; exact hk)
def RdI (h : List af) (L : List (List UInt8)) (v : Value) (i : Nat) (F : RG) (H : List af) : Prop :=
 i ≤ L.length ∧ F.ds = [] ∧ F.r 18 = v ∧ F.r 24 = ab (i : Nat) ∧ ag [] h H ∧ Sli H v 1 L.length (L.map ay)
set_option maxHeartbeats 1000000 in
theorem tx_9 (hE : ErrAt h) (hK : ∀ H',K (.bool true) H') {L : List (List UInt8)} {v : Value} (hL : L.length ≤ 100) (ds : F.ds = []) (r18 : F.r 18 = v) (S : ag [] h H) (sl : Sli H v 1 L.length (L.map ay)) :
  w3 (J2 prog W0 Post) n0 yp7 F H [] K := by
 have hJ := J2.closed prog W0 Post
 rw [s3_9]
 refine l3_11 hJ (S := Nat) (fun i => L.length - i) (RdI h L v) ?_ (s := 0) (.inl ⟨Nat.zero_le _,ds,r18,rfl,S,sl⟩)
 rintro i F H ⟨hi,ds,r18,r24,S,sl⟩ ok' hn'
 rw [s3_11]
 simp only [r18,r24]
 refine lenI sl (dh (ba (fun hlt => ?_) fun _ => hold.2 ?_))
 ·have hil : i < L.length := by omega
  obtain ⟨u,hu⟩ : ∃ u,L[i]? = some u := ⟨_,List.getElem?_eq_getElem hil⟩
  have hx : (L.map ay)[((i : Nat) : Int).toNat]? = some (ay u) := by
   rw [Int.toNat_natCast,List.getElem?_map,hu]
   rfl
  refine cF (x := ay u) sl ⟨by omega,by omega⟩ hx fun _ => good12 hJ (hE.keep S) fun H1 S1 => ext40 (ext41 (ext42 (ext43 ?_)))
  refine qAl fun H2 b25 e2 S2 c2 l2 => qAl fun H3 b26 e3 S3 c3 l3 => da (c := (readGP u).1.cells) (S3.get c2 (by simp)) rfl rfl rfl fun H4 S4 c4 l4 => da (c := (readGP u).2.cells) (S4.get c3 (by simp; omega)) rfl rfl rfl fun H5 S5 c5 l5 => hold.2 ?_
  have c45 := S5.get c4 (by simp; omega)
  have T5 : ag [] H H5 := (((S1.trans S2).trans S3).bq S4 (by have := S1.1; simp; omega)).bq S5 (by have := S1.1; simp; omega)
  suffices w12 : ∀ {F : RG},F.ds = [] → F.r 18 = v → F.r 24 = ab (i : Nat) → F.r 25 = ptr b25 0 → F.r 26 = ptr b26 0 → F.r 27 = ab (ca u).1 → F.r 28 = ab (ca u).2 → w3 (J2 prog W0 Post) n0 yp36 F H5 [Nx n0 (fun i => L.length - i) (RdI h L v) i] K from w12 ds r18 r24 rfl rfl rfl rfl
  intro F ds r18 r24 r25 r26 r27 r28
  rw [s3_12]
  simp only [r18,r24]
  refine cF (x := ay u) (T5.sli sl (by simp)) ⟨by omega,by omega⟩ hx fun _ => good13 hJ fun H6 S6 => ext40 (ext41 (ext42 (ext43 ?_)))
  refine qAl fun H7 b29 e7 S7 c7 l7 => qAl fun H8 b30 e8 S8 c8 l8 => da (c := (readGP u).1.cells) (S8.get c7 (by simp)) rfl rfl rfl fun H9 S9 c9 l9 => da (c := (readGP u).2.cells) (S9.get c8 (by simp; omega)) rfl rfl rfl fun H10 S10 c10 l10 => hold.2 ?_
  have c910 := S10.get c9 (by simp; omega)
  have T10 : ag [] H5 H10 := (((S6.trans S7).trans S8).bq S9 (by have := S6.1; simp; omega)).bq S10 (by have := S6.1; simp; omega)
  have d25 := T10.get c45 (by simp)
  have d26 := T10.get c5 (by simp)
  suffices w14 : ∀ {F : RG},F.ds = [] → F.r 18 = v → F.r 24 = ab (i : Nat) → F.r 25 = ptr b25 0 → F.r 26 = ptr b26 0 → F.r 27 = ab (ca u).1 → F.r 28 = ab (ca u).2 → F.r 29 = ptr b29 0 → F.r 30 = ptr b30 0 → F.r 31 = ab (ca u).1 → F.r 32 = ab (ca u).2 → w3 (J2 prog W0 Post) n0 yp37 F H10 [Nx n0 (fun i => L.length - i) (RdI h L v) i] K from w14 ds r18 r24 r25 r26 r27 r28 rfl rfl rfl rfl
  intro F ds r18 r24 r25 r26 r27 r28 r29 r30 r31 r32
  rw [s3_14]
  simp only [r25,r26,r27,r28,r29,r30,r31,r32]
  refine ar (c := (readGP u).1.cells) d25 (by simp [Pas.cells]) rfl rfl (ar (c := (readGP u).1.cells) c910 (by simp [Pas.cells]) rfl rfl (neqPZ (aP.2 ?_)))
  refine ar (c := (readGP u).2.cells) d26 (by simp [aU.cells]) rfl rfl (ar (c := (readGP u).2.cells) c10 (by simp [aU.cells]) rfl rfl (neqSZ (aP.2 (neqKs (aP.2 (neqKs (hold.2 ?_)))))))
  rw [s3_15]
  refine aP.2 ?_
  show aj prog .add 3 (F.r 24) (ab 1) _
  rw [r24]
  exact ck (by omega) ⟨i + 1,by dsimp only; omega,.inl ⟨hil,ds,r18,rfl,(S.trans T5).trans T10,(T5.trans T10).sli sl (by simp)⟩⟩
 ·rw [s3_13]
  refine good5 fun H' _ => ?_
  show aI n0 K F.ds [.bool true] H'
  rw [ds]
  exact ao (by simp [unk]) (hK H')
def WrI (h Hr : List af) (b1 b2 : Nat) (a4 a5 a6 : Value) (i : Nat) (F : RG) (H : List af) : Prop :=
 i ≤ 2 ∧ F.ds = [] ∧ F.r 4 = a4 ∧ F.r 5 = a5 ∧ F.r 6 = a6 ∧ F.r 16 = .slice (some ⟨b1,0,none⟩) 2 2 ∧ F.r 17 = .slice (some ⟨b2,0,none⟩) 2 2 ∧ F.r 19 = ab (i : Nat) ∧ ag [] h H ∧ h.length ≤ Hr.length ∧
  (∀ j o,Hr[j]? = some o → (j = b1 ∨ j = b2) → H[j]? = some o) ∧
  ∃ (L : List (List UInt8)) (v : Value) (o : Option Nat),F.r 18 = v ∧ OwnX H 1 (L.map ay) L.length v o ∧ (∀ k,o = some k → h.length ≤ k ∧ k ≠ b1 ∧ k ≠ b2) ∧ L.length = i + 1 ∧ ∀ j u,1 ≤ j → L[j]? = some u → u.length ≤ 110
set_option maxHeartbeats 1000000 in
theorem tx_4 (hE : ErrAt h) (hK : ∀ H',K (.bool true) H') {b1 b2 b3 : Nat} {text : List UInt8} {at_ how : Int} {by_ : UInt8} (ds : F.ds = []) (r4 : F.r 4 = ab at_) (r5 : F.r 5 = ab how) (r6 : F.r 6 = bV by_) (r16 : F.r 16 = .slice (some ⟨b1,0,none⟩) 2 2) (r17 : F.r 17 = .slice (some ⟨b2,0,none⟩) 2 2) (r18 : F.r 18 = .slice (some ⟨b3,0,none⟩) 1 1)
  (S : ag [] h H) (g1 : h.length ≤ b1) (g2 : h.length ≤ b2) (g3 : h.length ≤ b3) (h1 : H[b1]? = some (.cells ([p,q].flatMap Pas.cells) true 0)) (h2 : H[b2]? = some (.cells ([s,t].flatMap aU.cells) true 0)) (h3 : H[b3]? = some (.cells [ay text] true 0)) (n1 : b3 ≠ b1) (n2 : b3 ≠ b2) :
  w3 (J2 prog W0 Post) n0 [1,1,1,1] F H [] K := by
 have hJ := J2.closed prog W0 Post
 rw [s3_4]
 have own1 : OwnX H 1 ([text].map ay) ([text] : List (List UInt8)).length (.slice (some ⟨b3,0,none⟩) 1 1) (some b3) := dv (s := 1) (n := 1) h3 rfl rfl
 refine l3_5 hJ (S := Nat) (fun i => 3 - i) (WrI h H b1 b2 (ab at_) (ab how) (bV by_)) ?_ (s := 0)
  (.inl ⟨Nat.zero_le _,ds,r4,r5,r6,r16,r17,rfl,S,S.1,(fun j o ho _ => ho),[text],_,some b3,r18,own1,(fun k e => by cases e; exact ⟨g3,n1,n2⟩),rfl,fun j u h1 hu => by
   rw [List.getElem?_eq_none (by simpa using h1)] at hu
   cases hu⟩)
 rintro i F H1 ⟨hi,ds,r4,r5,r6,r16,r17,r19,S,hhr,hkeep,L,v,o,r18,O,hO,hlen,hshort⟩ ok' hn'
 have c1 := hkeep _ _ h1 (.inl rfl)
 have c2 := hkeep _ _ h2 (.inr rfl)
 rw [s3_5]
 simp only [r16,r17,r19]
 refine lenSl (dh (ba (fun hlt => ?_) fun hge => hold.2 ?_))
 ·have hi2 : i < 2 := by omega
  refine two6 c1 hi2 fun _ => two3 c2 hi2 fun _ => good9g hJ fun H2 S2 => ext0 (ext1 (hold.2 ?_))
  generalize hp : ofTwo p q i = pp at *
  generalize hs : ofTwo s t i = ss at *
  have d1 := S2.get c1 (by simp)
  have d2 := S2.get c2 (by simp)
  suffices w6 : ∀ {F : RG},F.ds = [] → F.r 4 = ab at_ → F.r 5 = ab how → F.r 6 = bV by_ → F.r 16 = .slice (some ⟨b1,0,none⟩) 2 2 → F.r 17 = .slice (some ⟨b2,0,none⟩) 2 2 → F.r 18 = v → F.r 19 = ab (i : Nat) → F.r 20 = ay (wrG pp ss).1 → F.r 21 = ab (wrG pp ss).2 → w3 (J2 prog W0 Post) n0 yp33 F H2 [Nx n0 (fun i => 3 - i) (WrI h H b1 b2 (ab at_) (ab how) (bV by_)) i] K from w6 ds r4 r5 r6 r16 r17 r18 r19 rfl rfl
  intro F ds r4 r5 r6 r16 r17 r18 r19 r20 r21
  rw [s3_6]
  simp only [r16,r17,r19]
  refine two6 d1 hi2 fun _ => two3 d2 hi2 fun _ => ?_
  rw [hp,hs]
  refine good10g hJ fun H3 S3 => ext0 (ext1 (hold.2 ?_))
  suffices w8 : ∀ {F : RG},F.ds = [] → F.r 4 = ab at_ → F.r 5 = ab how → F.r 6 = bV by_ → F.r 16 = .slice (some ⟨b1,0,none⟩) 2 2 → F.r 17 = .slice (some ⟨b2,0,none⟩) 2 2 → F.r 18 = v → F.r 19 = ab (i : Nat) → F.r 20 = ay (wrG pp ss).1 → F.r 21 = ab (wrG pp ss).2 → F.r 22 = ay (wrG pp ss).1 → F.r 23 = ab (wrG pp ss).2 → w3 (J2 prog W0 Post) n0 yp34 F H3 [Nx n0 (fun i => 3 - i) (WrI h H b1 b2 (ab at_) (ab how) (bV by_)) i] K from w8 ds r4 r5 r6 r16 r17 r18 r19 r20 r21 rfl rfl
  intro F ds r4 r5 r6 r16 r17 r18 r19 r20 r21 r22 r23
  rw [s3_8]
  simp only [r20,r21,r22,r23]
  refine neSs (aP.2 (neqKs (hold.2 ?_)))
  suffices w10 : ∀ {F : RG},F.ds = [] → F.r 4 = ab at_ → F.r 5 = ab how → F.r 6 = bV by_ → F.r 16 = .slice (some ⟨b1,0,none⟩) 2 2 → F.r 17 = .slice (some ⟨b2,0,none⟩) 2 2 → F.r 18 = v → F.r 19 = ab (i : Nat) → F.r 22 = ay (wrG pp ss).1 → F.r 91 = .bool false → w3 (J2 prog W0 Post) n0 yp21 F H3 [Nx n0 (fun i => 3 - i) (WrI h H b1 b2 (ab at_) (ab how) (bV by_)) i] K from w10 ds r4 r5 r6 r16 r17 r18 r19 r22 rfl
  intro F ds r4 r5 r6 r16 r17 r18 r19 r22 r91
  rw [s3_10]
  simp only [r18,r19,r22,r91]
  refine aP.2 ⟨⟨by decide,by decide,rfl⟩,aK (l := [ay (wrG pp ss).1]) rfl rfl rfl (Nat.le_of_ble_eq_true rfl) (bu (du fun H4 p4 e4 S4 c4 l4 => ⟨⟨rfl,by decide,by decide,by decide⟩,?_⟩))⟩
  have c4 : H4[p4]? = some (.cells [ay (wrG pp ss).1] true 0) := c4
  have T4 : ag [] H1 H4 := (S2.trans S3).trans S4
  have O4 := dI O T4 (by simp)
  refine ownX_more O4 (by omega) (by omega) (bS (dv (s := 1) (n := 1) c4 rfl rfl)) fun v' H5 p5 e5 O5 S5 => ck (by omega) ?_
  have hl4 : h.length ≤ H4.length := Nat.le_trans S.1 T4.1
  have b1l := ah (T4.get c1 (by simp))
  have b2l := ah (T4.get c2 (by simp))
  have no : ∀ x ∈ o.toList,h.length ≤ x ∧ x ≠ b1 ∧ x ≠ b2 := fun x hx => hO x (by simpa using hx)
  refine ⟨i + 1,by dsimp only; omega,.inl ⟨by omega,ds,r4,r5,r6,r16,r17,rfl,(S.trans T4).bq S5 fun y hy => .inr (no y hy).1,hhr,fun j o' hj hb => ?_,L ++ [(wrG pp ss).1],v',some p5,rfl,by simpa using O5,(fun k e => by cases e; omega),by simp [hlen],fun j u hj hu => ?_⟩⟩
  ·refine S5.get (T4.get (hkeep j o' hj hb) (by simp)) fun hm => ?_
   have := no j hm
   omega
  ·rcases Nat.lt_or_ge j L.length with hjl | hjl
   ·rw [List.getElem?_append_left hjl] at hu
    exact hshort j u hj hu
   ·rw [List.getElem?_append_right hjl] at hu
    have : j - L.length = 0 := by
     rcases Nat.eq_zero_or_pos (j - L.length) with h0 | h0
     ·exact h0
     ·rw [List.getElem?_eq_none (by show 1 ≤ _; omega)] at hu
      cases hu
    rw [this] at hu
    cases hu
    exact wrG_len pp ss
 ·have hi2 : i = 2 := by omega
  subst hi2
  suffices w7 : ∀ {F : RG},F.ds = [] → F.r 4 = ab at_ → F.r 5 = ab how → F.r 6 = bV by_ → F.r 18 = v → w3 (J2 prog W0 Post) n0 yp6 F H1 [] K from w7 ds r4 r5 r6 r18
  intro F ds r4 r5 r6 r18
  rw [s3_7]
  simp only [r4,r5,r6,r18]
  obtain ⟨u,hu⟩ : ∃ u,L[2]? = some u := ⟨_,List.getElem?_eq_getElem (by omega)⟩
  have hul := hshort 2 u (by decide) hu
  refine cF (x := ay u) (i := 2) (bS O) ⟨by omega,by omega⟩ (by show (L.map ay)[2]? = _; rw [List.getElem?_map,hu]; rfl) fun _ => good11 hJ (by omega) fun w H2 hw S2 => ?_
  refine ⟨⟨by decide,by decide,rfl⟩,aK (l := [ay w]) rfl rfl rfl (Nat.le_of_ble_eq_true rfl) (bu (du fun H3 p3 e3 S3 c3 l3 => ⟨⟨rfl,by decide,by decide,by decide⟩,?_⟩))⟩
  have c3 : H3[p3]? = some (.cells [ay w] true 0) := c3
  have T3 := S2.trans S3
  have O3 := dI O T3 (by simp)
  refine ownX_more O3 (by omega) (by omega) (bS (dv (s := 1) (n := 1) c3 rfl rfl)) fun v' H4 p4 e4 O4 S4 => hold.2 ?_
  have O4' : OwnX H4 1 ((L ++ [w]).map ay) (L ++ [w]).length v' (some p4) := by simpa using O4
  exact tx_9 hE hK (L := L ++ [w]) (by simp; omega) ds rfl ((S.trans T3).bq S4 fun y hy => .inr (hO y (by simpa using hy)).1) (bS O4')
set_option maxHeartbeats 1000000 in
theorem walk3 {nv : Value} {ns : List Int} {text : List UInt8} {at_ how : Int} {by_ : UInt8} (hE : ErrAt h) (sn : Sli h nv 1 ns.length (ns.map ab)) (hln : ns.length < 4611686018427387904) (hK : ∀ H',K (.bool true) H') :
  W prog (J2 prog W0 Post) 151 h.length 3 (codeOf f3) (RG.mk (ax [.agg ⟨p.cells⟩,.agg ⟨s.cells⟩,ay text,nv,ab at_,ab how,bV by_]) []) h (aq prog [.tmp 14] h.length K) := by
 have hJ := J2.closed prog W0 Post
 rw [e3]
 refine dk (l := p.cells) rfl fun H1 x7 e7 S1 c7 l7 => dk (l := s.cells) rfl fun H2 x8 e8 S2 c8 l8 => ?_
 have c7 := S2.get c7 (by simp)
 have S := S1.trans S2
 have go : ∀ {F : RG} {b : Bool},F.ds = [] → F.r 2 = ay text → F.r 3 = nv → F.r 4 = ab at_ → F.r 5 = ab how → F.r 6 = bV by_ → F.r 7 = ptr x7 0 → F.r 8 = ptr x8 0 → F.r 40 = .bool b → w3 (J2 prog W0 Post) h.length [1,0,1] F H2 [] K := by
  intro F b ds r2 r3 r4 r5 r6 r7 r8 r40
  rw [s3_1]
  simp only [ds,r40]
  cases b with
  | true => exact bm.2 (good5 fun H' _ => ao (by simp [unk]) (hK H'))
  | false =>
   refine aP.2 (hold.2 ?_)
   rw [s3_2]
   simp only [r3]
   refine newX hJ (S.sli sn (by simp)) hln fun H3 a3 => hold.2 ?_
   have P3 := a3.pre
   refine front3 hJ (x7 := x7) (x8 := x8) r2 r7 r8 rfl (P3.get c7 (by simp)) (P3.get c8 (by simp)) (ah c7) (ah c8) a3 fun {F' H' x y b1 b2 b3 k} M ds' e4 e5 e6 r16 r17 r18 => ?_
   obtain ⟨g1,z1,hz1,d1⟩ := M.c1 b1 rfl
   obtain ⟨g2,z2,hz2,d2⟩ := M.c2 b2 rfl
   obtain ⟨g3,d3⟩ := M.c3 b3 rfl
   have hl2 := S.1
   have n1 : b3 ≠ b1 := by
    rintro rfl
    rw [d1] at d3
    have := congrArg (fun o => match o with | some (af.cells c _ _) => c.length | _ => 0) d3
    simp [Pas.cells] at this
   have n2 : b3 ≠ b2 := by
    rintro rfl
    rw [d2] at d3
    have := congrArg (fun o => match o with | some (af.cells c _ _) => c.length | _ => 0) d3
    simp [aU.cells] at this
   exact tx_4 hE hK (ds'.trans ds) (e4.trans r4) (e5.trans r5) (e6.trans r6) r16 r17 r18 (S.trans M.hx.pre) (by omega) (by omega) (by omega) d1 d2 d3 n1 n2
 refine di (gtrI (ba (fun _ => di (leqI (hold.2 (go rfl rfl rfl rfl rfl rfl rfl rfl rfl)))) fun _ => hold.2 (go rfl rfl rfl rfl rfl rfl rfl rfl rfl)))
end
end Go.Proofs.YtlhanfcgdfjhjaaGreatDoor
namespace Go.Proofs.YtlhanfcgdfjhjaaGreatDoor
open Go.Conc Go.RowKit
def idEnv : Env := ⟨fun b => b,fun _ => 0⟩
def startFt (w : World) : aJ := ⟨fun b => b < w.heap.size,fun _ => False,0⟩
def startFC (w : World) : Frm := ⟨fun b => w.heap[b]?,fun _ => False⟩
def Fine (n : Nat) (v : Value) : Prop := VOk n v ∧ one v = true ∧ ren idEnv v = v
open Classical in
noncomputable def clean (n : Nat) (v : Value) : Value := if Fine n v then v else unk
noncomputable def absO (n : Nat) : Obj → af
 | .cells c _ _ => .cells (c.toList.map (clean n)) false 0
 | _ => .dead
noncomputable def absH (w : World) : List af := w.heap.toList.map (absO w.heap.size)
section
variable {w w' : World} {n : Nat}
theorem clean_fine {v : Value} (h : Fine n v) : clean n v = v := by simp [clean,h]
theorem absH_len : (absH w).length = w.heap.size := by simp [absH]
theorem absH_get {b : Nat} : (absH w)[b]? = (w.heap[b]?).map (absO w.heap.size) := by simp [absH]
theorem absO_wrt (x : Obj) : (absO n x).wrt = false := by cases x <;> rfl
theorem start_rel (w : World) : aN idEnv (absH w) (startFC w) w (startFt w) where
 obj := fun b o hb => by
  rw [absH_get] at hb
  obtain ⟨x,hx,rfl⟩ := Option.map_eq_some_iff.1 hb
  show ORel (absH w).length idEnv b (absO w.heap.size x) w.heap[b]?
  rw [absH_len,hx]
  cases x with
  | cells c ty fr =>
   refine ⟨fun i v hv => ?_,fun _ => by simp,fun hz => absurd rfl hz,fun e => by cases e⟩
   rw [List.getElem?_map] at hv
   obtain ⟨u,hu,rfl⟩ := Option.map_eq_some_iff.1 hv
   by_cases hf : Fine w.heap.size u
   ·rw [clean_fine hf]
    exact .inr ⟨hf.1,hf.2.1,by rw [hf.2.2]; simpa using hu⟩
   ·exact .inl ⟨by simp [clean,hf],rfl⟩
  | _ => trivial
 inj := fun b b' o o' _ _ _ _ _ e => e
 rd := fun b o hb _ => by
  have : b < (absH w).length := (List.getElem?_eq_some_iff.1 hb).1
  rw [absH_len] at this
  exact this
 wr := fun b o hb hw => by
  rw [absH_get] at hb
  obtain ⟨x,hx,rfl⟩ := Option.map_eq_some_iff.1 hb
  rw [absO_wrt] at hw
  cases hw
 lt := fun b hb => hb
 sub := fun b hb => hb.elim
 kept := fun b o hb => by
  refine ⟨hb,?_,fun a oa ha hw => ?_⟩
  ·exact (Array.getElem?_eq_some_iff.1 hb).1
  ·rw [absH_get] at ha
   obtain ⟨x,hx,rfl⟩ := Option.map_eq_some_iff.1 ha
   rw [absO_wrt] at hw
   cases hw
 keptW := fun b hb => hb.elim
 tag := fun b x hb => by
  rw [absH_get] at hb
  obtain ⟨y,_,e⟩ := Option.map_eq_some_iff.1 hb
  cases y <;> cases e
theorem absH_cell {b o : Nat} {v : Value} (hc : w.cell? ⟨b,o,none⟩ = some v) (hf : Fine w.heap.size v) : ∃ c,(absH w)[b]? = some (.cells c false 0) ∧ c[o]? = some v := by
 unfold World.cell? at hc
 simp only at hc
 split at hc
 ·rename_i c ty fr hx
  refine ⟨c.toList.map (clean w.heap.size),by rw [absH_get,hx]; rfl,?_⟩
  have hc' : c[o]? = some v := by simpa using hc
  rw [List.getElem?_map,Array.getElem?_toList,hc']
  simp [clean_fine hf]
 ·cases hc
theorem below_of {ρ' : Env} {h' : List af} {ft' : aJ} (H : aN ρ' h' (startFC w) w' ft') (B : Base w w') : Below w.heap.size w w' :=
 ⟨B.os,B.tape,B.output,B.size,fun k hk => by
  have : (startFC w).ob k = some w.heap[k] := by simp [startFC,hk]
  rw [(H.kept k _ this).1,Array.getElem?_eq_getElem hk]⟩
end
end Go.Proofs.YtlhanfcgdfjhjaaGreatDoor
namespace Go.Proofs.YtlhanfcgdfjhjaaGreatDoor
open Go.Conc Go.ChangeShapes Go.WideShapes Go.ChangeAt Go.RowKit Go.Proofs.Tryz
set_option maxRecDepth 100000
theorem own : ownKnob prog.godebug = none := by kernel_rfl
theorem laidOut : laidOutB prog = true := by kernel_rfl
def ArgOk (W : World) (v : Value) : Prop := VOk W.heap.size v ∧ ren idEnv v = v
theorem argOk_int {W : World} {k : IntKind} {n : Int} : ArgOk W (.int k n) := ⟨by simp [VOk],by simp [ren]⟩
section
variable {H : Type} {enc : TypeId × Value → H}
theorem arg_ints {t e : TypeId} (ht : prog.underlying t = some (.slice e)) (he : prog.underlying e = some (.int .i64)) (hc : prog.cellsOf e = 1) {W : World} {base : Nat} {v : Value} {d : DataW H} {ps : List MemPlace}
  (hval : Value.okWide prog W .any base t v) (hd : DataW.Trod enc prog W 0 (fun _ => true) true t v d ps) :
  ∃ zs : List Int,Sli (absH W) v 1 zs.length (zs.map ab) ∧ ArgOk W v ∧ (zs = [] ∨ ∃ es sp,d = .slice es sp ∧ zs.length ≤ es.length + sp.length) := by
 obtain ⟨a0,len,cap,rfl⟩ := okWide_slice ht hval
 obtain ⟨fuel,hf⟩ := hd
 rcases open_ints ht he hc hf with ⟨hcs,hx⟩ | ⟨a,len',cap',zs,hcs,_,hl,hm,hz,hx,hcell,hwz⟩
 ·simp [Value.cells] at hcs
  obtain ⟨rfl,rfl,rfl⟩ := hcs
  exact ⟨[],sli_nil,⟨by simp [VOk],by simp [ren]⟩,.inl rfl⟩
 ·simp [Value.cells] at hcs
  obtain ⟨rfl,rfl,rfl⟩ := hcs
  simp only [Prod.mk.injEq] at hx
  obtain ⟨rfl,rfl⟩ := hx
  simp only [if_true] at hz
  simp only [Value.okWide,ht,Cell.okWide,Cell.ok,World.has] at hval
  obtain ⟨_,_,_,hspot,row,cells,hshape,_⟩ := hval
  obtain ⟨b,o,spot⟩ := a
  simp only at hspot hshape
  subst hspot
  have hb : b < W.heap.size := by
   unfold World.shape? at hshape
   split at hshape
   ·rename_i h
    exact (Array.getElem?_eq_some_iff.1 h).1
   ·cases hshape
  have hlen : (zs.take len).length = len := by simp; omega
  have hcell' : ∀ i,i < zs.length → W.cell? ⟨b,o + i,none⟩ = some (ab (zs.getD i 0)) := by
   intro i hi
   have := hcell i hi
   unfold Addr.add at this
   by_cases h0 : i = 0
   ·subst h0; simpa using this
   ·simpa [h0] using this
  have hmax : cap < fz := by
   simp only [maxLen] at hm
   unfold fz
   omega
  refine ⟨zs.take len,?_,⟨by simp only [VOk,bt]; exact ⟨hb,trivial⟩,?_⟩,.inr ⟨_,_,rfl,?_⟩⟩
  ·refine ⟨some ⟨b,o,none⟩,cap,by rw [hlen],⟨by simp,kn_ints _⟩,.inr ⟨b,o,rfl,?_⟩⟩
   rw [hlen]
   by_cases h0 : len = 0
   ·exact .inl h0
   ·right
    have fine : ∀ n : Int,Fine W.heap.size (ab n) := fun n => ⟨by simp [VOk],rfl,by simp [ren]⟩
    obtain ⟨c,hc1,hc2⟩ := absH_cell (hcell' 0 (by omega)) (fine _)
    refine ⟨c,false,0,hc1,?_⟩
    apply List.ext_getElem?
    intro i
    rw [Nat.mul_one]
    by_cases hi : i < len
    ·obtain ⟨c',hc1',hc2'⟩ := absH_cell (hcell' i (by omega)) (fine _)
     rw [hc1] at hc1'
     cases hc1'
     rw [List.getElem?_take,if_pos hi,List.getElem?_drop,hc2']
     have hzi : i < zs.length := by omega
     simp [hi,hzi]
    ·rw [List.getElem?_take,if_neg hi,List.getElem?_eq_none (by simp; omega)]
  ·have hnf : ¬ fz ≤ cap := by omega
   simp [ren,aO,bD,idEnv,hnf]
  ·simp only [lits,List.length_map,List.length_take,List.length_drop]
   omega
end
section
variable {n m : Nat} {σ : Nat → Nat}
mutual
theorem vok_sub (h : ∀ b,b < n → σ b < m) : ∀ v : Value,VOk n v → VOk m (sub σ v)
 | .pointer (some a),hv => by simp only [VOk,bt,sub] at hv ⊢; exact ⟨h _ hv.1,hv.2⟩
 | .slice (some a) _ _,hv => by simp only [VOk,bt,sub] at hv ⊢; exact ⟨h _ hv.1,hv.2⟩
 | .map (some r),hv => by simp only [VOk,sub] at hv ⊢; exact h _ hv
 | .chan (some r),hv => by simp only [VOk,sub] at hv ⊢; exact h _ hv
 | .func fn first cap,hv => by
  simp only [VOk,sub] at hv ⊢
  refine ⟨?_,aok_sub h first hv.2.1,aok_sub h cap hv.2.2⟩
  have h1 := hv.1
  cases fn <;> simp only [subFn,FnOk] at h1 ⊢
  exact h _ h1
 | .iface _ v,hv => by simp only [VOk,sub] at hv ⊢; exact vok_sub h v hv
 | .agg cs,hv => by simp only [VOk,sub] at hv ⊢; exact aok_sub h cs hv
 | .tuple vs,hv => by simp only [VOk,sub] at hv ⊢; exact aok_sub h vs hv
 | .bool _,_ | .int _ _,_ | .float _ _,_ | .complex _ _ _,_ | .string _,_ | .pointer none,_ | .slice none _ _,_ | .map none,_ | .chan none,_ | .nilFunc,_ | .nilIface,_ => by simp only [VOk,sub]
theorem aok_sub (h : ∀ b,b < n → σ b < m) : ∀ a : Array Value,AOk n a → AOk m (subA σ a)
 | ⟨l⟩,hv => by simp only [AOk,subA] at hv ⊢; exact lok_sub h l hv
theorem lok_sub (h : ∀ b,b < n → σ b < m) : ∀ l : List Value,LOk n l → LOk m (subL σ l)
 | [],_ => by simp only [LOk,subL]
 | v :: l,hv => by simp only [LOk,subL] at hv ⊢; exact ⟨vok_sub h v hv.1,lok_sub h l hv.2⟩
end
end
theorem ro_rel {ρ : Env} {h : List af} {w : World} (hobj : ∀ b o,h[b]? = some o → ORel h.length ρ b o w.heap[ρ.blk b]?) (hro : ∀ o ∈ h,o.wrt = false ∧ ∀ x,o ≠ .group x)
  (hrd : ∀ b o,h[b]? = some o → o.live = true → ρ.blk b < w.heap.size) : aN ρ h (startFC w) w (startFt w) where
 obj := hobj
 inj := fun b b' o o' hb hb' _ _ lw _ => lw.elim (fun k => by rw [(hro o (List.mem_of_getElem? hb)).1] at k; cases k) fun k => by rw [(hro o' (List.mem_of_getElem? hb')).1] at k; cases k
 rd := hrd
 wr := fun b o hb hw => by rw [(hro o (List.mem_of_getElem? hb)).1] at hw; cases hw
 lt := fun b hb => hb
 sub := fun b hb => hb.elim
 kept := fun b o hb => ⟨hb,(Array.getElem?_eq_some_iff.1 hb).1,fun a oa ha hw => by rw [(hro oa (List.mem_of_getElem? ha)).1] at hw; cases hw⟩
 keptW := fun b hb => hb.elim
 tag := fun b x hb => absurd rfl ((hro _ (List.mem_of_getElem? hb)).2 x)
open Classical in
noncomputable def flat (v : Value) : Value := if VOk 0 v ∧ one v = true then v else unk
theorem flat_of {v : Value} (h : VOk 0 v ∧ one v = true) : flat v = v := if_pos h
noncomputable def flatO : af → af
 | .cells c _ _ => .cells (c.map flat) false 0
 | _ => .dead
def toldEnv (n g : Nat) : Env := ⟨fun b => if b < n then b else if b = n then g else b - (n + 1),fun _ => 0⟩
abbrev shift (n : Nat) : Nat → Nat := fun b => n + 1 + b
def toldO (told : Nat → Option (List Value)) (i : Nat) : af := match told i with | some c => .typed false i c false | none => .dead
noncomputable def dX (told : Nat → Option (List Value)) (g : Nat) (w : World) : List af := (List.range w.heap.size).map (toldO told) ++ .place g :: (absH w).map flatO
section
variable {told : Nat → Option (List Value)} {g : Nat} {w : World}
theorem toldH_len : (dX told g w).length = w.heap.size + 1 + w.heap.size := by simp [dX,absH_len]; omega
theorem toldH_lo {i : Nat} (hi : i < w.heap.size) : (dX told g w)[i]? = some (toldO told i) := by
 unfold dX
 rw [List.getElem?_append_left (by simpa using hi)]
 simp [hi]
theorem toldH_mid : (dX told g w)[w.heap.size]? = some (.place g) := by
 unfold dX
 rw [List.getElem?_append_right (by simp)]
 simp
theorem toldH_hi (i : Nat) : (dX told g w)[w.heap.size + 1 + i]? = ((absH w)[i]?).map flatO := by
 unfold dX
 rw [List.getElem?_append_right (by simp; omega)]
 have : w.heap.size + 1 + i - ((List.range w.heap.size).map (toldO told)).length = i + 1 := by simp; omega
 rw [this,List.getElem?_cons_succ,List.getElem?_map]
theorem toldO_wrt (i : Nat) : (toldO told i).wrt = false ∧ ∀ x,toldO told i ≠ .group x := by
 unfold toldO
 split <;> exact ⟨rfl,fun x e => by cases e⟩
theorem flatO_wrt (o : af) : (flatO o).wrt = false ∧ ∀ x,flatO o ≠ .group x := by
 cases o <;> exact ⟨rfl,fun x e => by cases e⟩
theorem toldH_cases {i : Nat} {o : af} (h : (dX told g w)[i]? = some o) : (i < w.heap.size ∧ o = toldO told i) ∨ (i = w.heap.size ∧ o = .place g) ∨ ∃ j x,i = w.heap.size + 1 + j ∧ (absH w)[j]? = some x ∧ o = flatO x := by
 rcases Nat.lt_trichotomy i w.heap.size with hi | rfl | hi
 ·rw [toldH_lo hi] at h
  cases h
  exact .inl ⟨hi,rfl⟩
 ·rw [toldH_mid] at h
  cases h
  exact .inr (.inl ⟨rfl,rfl⟩)
 ·obtain ⟨j,rfl⟩ : ∃ j,i = w.heap.size + 1 + j := ⟨i - (w.heap.size + 1),by omega⟩
  rw [toldH_hi] at h
  obtain ⟨x,hx,rfl⟩ := Option.map_eq_some_iff.1 h
  exact .inr (.inr ⟨j,x,rfl,hx,rfl⟩)
theorem env_lo {n i : Nat} (hi : i < n) : (toldEnv n g).blk i = i := if_pos hi
theorem env_mid {n : Nat} : (toldEnv n g).blk n = g := by simp [toldEnv]
theorem env_hi {n i : Nat} : (toldEnv n g).blk (n + 1 + i) = i := by
 unfold toldEnv
 simp only
 rw [if_neg (by omega),if_neg (by omega)]
 omega
theorem told_rel (ht : ∀ i c,told i = some c → i < w.heap.size → ∃ c' ty fr,w.heap[i]? = some (.cells c' ty fr) ∧ bZ (dX told g w).length (toldEnv w.heap.size g) i c false 0 c' fr) :
  aN (toldEnv w.heap.size g) (dX told g w) (startFC w) w (startFt w) := by
 refine ro_rel (fun b o hb => ?_) (fun o ho => ?_) fun b o hb hl => ?_
 ·rcases toldH_cases hb with ⟨hi,rfl⟩ | ⟨rfl,rfl⟩ | ⟨j,x,rfl,hx,rfl⟩
  ·rw [env_lo hi]
   unfold toldO
   cases hc : told b with
   | none => trivial
   | some c =>
    obtain ⟨c',ty,fr,hw,hr⟩ := ht b c hc hi
    rw [hw]
    exact ⟨hr,(fun e => by cases e),fun _ => env_lo hi⟩
  ·exact env_mid
  ·rw [env_hi]
   cases x with
   | cells c wr sz =>
    have h1 := (start_rel w).obj j _ hx
    have h1 : ORel (absH w).length idEnv j (.cells c wr sz) w.heap[j]? := h1
    rw [absH_get] at hx
    obtain ⟨y,hy,e⟩ := Option.map_eq_some_iff.1 hx
    rw [hy] at h1 ⊢
    cases y with
    | cells c' ty fr =>
     cases e
     obtain ⟨a1,a2,_,_⟩ := h1
     refine ⟨fun i v hv => ?_,fun _ => by rw [List.length_map]; exact a2 rfl,fun hz => absurd rfl hz,fun e => by cases e⟩
     rw [List.getElem?_map] at hv
     obtain ⟨u,hu,rfl⟩ := Option.map_eq_some_iff.1 hv
     by_cases hf : VOk 0 u ∧ one u = true
     ·rw [flat_of hf]
      rcases a1 i u hu with ⟨rfl,_⟩ | ⟨_,_,b3⟩
      ·exact .inl ⟨rfl,rfl⟩
      ·exact .inr ⟨VOk.mono (Nat.zero_le _) _ hf.1,hf.2,by rw [b3,ren0 u hf.1,ren0 u hf.1]⟩
     ·exact .inl ⟨if_neg hf,rfl⟩
    | _ => cases e
   | _ => trivial
 ·obtain ⟨i,hi⟩ := List.mem_iff_getElem?.1 ho
  rcases toldH_cases hi with ⟨_,rfl⟩ | ⟨_,rfl⟩ | ⟨j,x,_,_,rfl⟩
  ·exact toldO_wrt i
  ·exact ⟨rfl,fun x e => by cases e⟩
  ·exact flatO_wrt x
 ·rcases toldH_cases hb with ⟨hi,rfl⟩ | ⟨rfl,rfl⟩ | ⟨j,x,rfl,hx,rfl⟩
  ·rw [env_lo hi]
   exact hi
  ·cases hl
  ·rw [env_hi]
   have := (List.getElem?_eq_some_iff.1 hx).1
   rwa [absH_len] at this
theorem told_sli {v : Value} {s k : Nat} {cells : List Value} (h : Sli (absH w) v s k cells) (hf : ∀ x ∈ cells,VOk 0 x ∧ one x = true) : Sli (dX told g w) (sub (shift w.heap.size) v) s k cells := by
 obtain ⟨base,c,rfl,hk,hb⟩ := h
 rcases hb with ⟨rfl,h0⟩ | ⟨b,o,rfl,hn⟩
 ·exact ⟨none,c,by simp [sub],hk,.inl ⟨rfl,h0⟩⟩
 ·refine ⟨some ⟨shift w.heap.size b,o,none⟩,c,by simp [sub],hk,.inr ⟨_,o,rfl,hn.imp id ?_⟩⟩
  rintro ⟨cs,wr,sz,hcs,e⟩
  refine ⟨cs.map flat,false,0,by rw [toldH_hi,hcs]; rfl,?_⟩
  rw [← List.map_drop,← List.map_take,e]
  refine (List.map_congr_left (g := id) fun x hx => flat_of (hf x hx)).trans (List.map_id _)
theorem flat_int {n : Int} : VOk 0 (ab n) ∧ one (ab n) = true := ⟨by simp [VOk],rfl⟩
theorem told_ints {v : Value} {ns : List Int} (h : Sli (absH w) v 1 ns.length (ns.map ab)) : Sli (dX told g w) (sub (shift w.heap.size) v) 1 ns.length (ns.map ab) :=
 told_sli h fun x hx => by
  obtain ⟨i,_,rfl⟩ := List.mem_map.1 hx
  exact flat_int
theorem told_arg {v : Value} (h : ArgOk w v) : cS (dX told g w).length (toldEnv w.heap.size g) (sub (shift w.heap.size) v) v := by
 obtain ⟨h1,h2⟩ := h
 refine .inr ⟨vok_sub (fun b hb => by rw [toldH_len]; show w.heap.size + 1 + b < _; omega) v h1,?_⟩
 rw [ren_sub]
 refine (h2.symm.trans ?_)
 refine (cN (fun b _ => ?_) v h1 : ren ((toldEnv w.heap.size g).comp (shift w.heap.size)) v = ren idEnv v).symm
 exact ⟨env_hi,rfl⟩
end
end Go.Proofs.YtlhanfcgdfjhjaaGreatDoor
namespace Go.Proofs.YtlhanfcgdfjhjaaGreatDoor
open Go.Conc
section
variable {P : Program} {W0 : World} {Post : Value → World → Prop} {ρ : Env} {h : List af} {FC : Frm} {w : World} {ft : aJ} {f : RG} {a : Act} {b : FB} {K : Value → List af → Prop} {n0 : Nat}
theorem leave_top2 {fn : Func} (hk : b.kind = .normal) (hf : P.funcs[b.fn]? = some fn) (hin : P.inits.idxOf? b.fn = none)
  (hc : ∀ v h' ρ' w' ft' cv,K v h' → aN ρ' h' FC w' ft' → Env.upto n0 ρ ρ' → n0 ≤ h'.length → cS h'.length ρ' v cv → Base W0 w' → Post cv w') :
  ∀ (ds : List Nat) (h : List af) (w : World) (ft : aJ) (a : Act) (fr : Frame),fr.fn = b.fn → fr.kind = .normal → fr.mode = .returning → fr.tmps = a.tmps → fr.defers = ds.map (fun d => { target := .collected (ρ.blk d),args := #[] }) → dt h.length ρ f.r a.tmps → aN ρ h FC w ft → n0 ≤ h.length →
   takeW ds h (fun h => resW P fn.results.toList f.r h fun vs => K (pack vs) h ∨ ∃ σ h' v,GC n0 σ h h' ∧ pack vs = sub σ v ∧ VOk h'.length v ∧ K v h') → J2 P W0 Post (G fr []) w ft
 | [],h,w,ft,a,fr,e1,e2,e3,e4,e5,hr,H,hn,hq => by
  obtain ⟨fn',tmps,todo,defers,mode,kind,ro⟩ := fr
  simp only at e1 e2 e3 e4 e5
  subst e1 e2 e3 e4 e5
  refine J2.both rfl fun w₁ h₁ hbase => .inr ?_
  have H₁ := H.rely h₁
  have hrun : aa P (bp ft) (results fn a.tmps) w₁ fun cv w' => w' = w₁ ∧ ∃ vs,cv = ren ρ (pack vs) ∧ (∀ v ∈ vs,VOk h.length v) ∧ (K (pack vs) h ∨ ∃ σ h' v,GC n0 σ h h' ∧ pack vs = sub σ v ∧ VOk h'.length v ∧ K v h') := by
   unfold results
   have : (fn.results.mapM (resF a.tmps)) = List.toArray <$> fn.results.toList.mapM (resF a.tmps) := by
    rw [Array.mapM_eq_mapM_toList]
   show aa P (bp ft) (do
    let vs ← fn.results.mapM (resF a.tmps)
    pure (if h : vs.size = 1 then vs[0] else .tuple vs)) w₁ _
   rw [this]
   refine aa.bind (aa.map (res_run (n := 0) H₁ hr fn.results.toList hq fun vs hvs hok => aa.pure ⟨rfl,vs,?_,hok,hvs⟩))
   exact pack_ren vs
  obtain ⟨cv,w',es,hr',he,rfl,vs,rfl,hvok,hvs⟩ := hrun #[] (by simp)
  have hes : ∀ e ∈ seen P b.fn es,bp ft e := fun e hm => he e (mem_seen hm)
  refine ⟨ren ρ (pack vs),seen P b.fn es,?_,hes,?_⟩
  ·simp only [G,stepG,unwind,List.map_nil,hf,hr']
   simp [doReturn,GStep.after,hin]
  ·rcases hvs with hK | ⟨σ,h',v,g,hp,hok,hK⟩
   ·exact hc _ h _ w' ft _ hK H₁ (Env.bK _ _) hn (.inr ⟨pack_ok hvok,rfl⟩) hbase
   ·rw [hp,ren_sub]
    exact hc v h' _ w' ft _ hK (g.rel H₁) g.upto g.le (.inr ⟨hok,rfl⟩) hbase
 | d :: ds,h,w,ft,a,fr,e1,e2,e3,e4,e5,hr,H,hn,hq => by
  obtain ⟨fn',tmps,todo,defers,mode,kind,ro⟩ := fr
  simp only at e1 e2 e3 e4 e5
  subst e1 e2 e3 e4 e5
  obtain ⟨hd,hq⟩ := hq
  refine (J2.closed P W0 Post).step rfl fun w₁ h₁ => ?_
  have H₁ := H.rely h₁
  obtain ⟨cv,w',es,hr',he,rfl,H',hst,hsz⟩ := take_run (P := P) H₁ hd (Q := fun l w' => l = [] ∧ aN ρ (h.set d .dead) FC w' ft ∧ cZ ft w₁ w' ∧ w'.heap.size = w₁.heap.size) (fun w' a1 a2 a3 => ⟨rfl,a1,a2,a3⟩) #[] (by simp)
  have hes : ∀ e ∈ seen P b.fn es,bp ft e := fun e hm => he e (mem_seen hm)
  refine ⟨G { fn := b.fn,tmps := a.tmps,todo := todo,defers := ds.map (fun d => { target := .collected (ρ.blk d),args := #[] }),mode := .returning,kind := .normal,roundOf := ro } [],w',seen P b.fn es,?_,rfl,hst.guar hes,?_⟩
  ·simp only [G,stepG,unwind,List.map_cons,hr']
   simp [GStep.after]
  ·rw [hsz,aJ.bY]
   exact leave_top2 hk hf hin hc ds _ w' ft a _ rfl rfl rfl rfl rfl (by rw [List.length_set]; exact hr) H' (by rw [List.length_set]; exact hn) hq
theorem top_of_W2 (hm : P.follows .mixedOrders = true) {g : FuncId} {fn : Func} (hf : P.funcs[g]? = some fn) {c : Code} (hb : fn.body = some c) (hin : P.inits.idxOf? g = none) {args : List Value} {cargs : Array Value} (ha : args.length ≤ fn.ntmps) (hl : cargs.size = args.length)
  (hr : ∀ i : Nat,cS h.length ρ (args.getD i unk) (cargs.toList.getD i undef)) (H : aN ρ h FC w ft)
  (hs : W P (J2 P W0 Post) fn.ntmps h.length g c ⟨ax args,[]⟩ h (aq P fn.results.toList h.length K))
  (hc : ∀ v h' ρ' w' ft' cv,K v h' → aN ρ' h' FC w' ft' → Env.upto h.length ρ ρ' → h.length ≤ h'.length → cS h'.length ρ' v cv → Base W0 w' → Post cv w') : J2 P W0 Post (G (Frame.enter P g cargs .normal) []) w ft := by
 have hJ := J2.closed P W0 Post
 obtain ⟨cargs⟩ := cargs
 simp only at hl hr
 have he : Frame.enter P g ⟨cargs⟩ .normal = FB.at ⟨g,.normal,none,[]⟩ ⟨⟨cargs⟩ ++ Array.replicate (fn.ntmps - cargs.length) undef,[]⟩ [.code c] := by
  simp [Frame.enter,FB.at,hf,hb]
 rw [he]
 have A : cu h.length ρ fn.ntmps ⟨ax args,[]⟩ ⟨⟨cargs⟩ ++ Array.replicate (fn.ntmps - cargs.length) undef,[]⟩ := by
  refine ⟨fun t => ?_,by simp at hl ⊢; omega,rfl,by simp⟩
  have := hr t
  have ht : ((⟨cargs⟩ : Array Value) ++ Array.replicate (fn.ntmps - cargs.length) undef).getD t undef = cargs.getD t undef := by
   rw [Array.getD_eq_getD_getElem?,List.getD_eq_getElem?_getD]
   by_cases hx : t < cargs.length
   ·rw [Array.getElem?_append_left (by simpa using hx)]
    simp
   ·rw [Array.getElem?_append_right (by simp; omega),List.getElem?_eq_none (by omega)]
    simp only [Array.getElem?_replicate]
    split <;> rfl
  rw [ht]
  exact this
 have last : ∀ f' h' ρ' w' ft' a' todo,aq P fn.results.toList h.length K .ret f' h' → cu h'.length ρ' fn.ntmps f' a' → aN ρ' h' FC w' ft' → Env.upto h.length ρ ρ' → h.length ≤ h'.length →
   J2 P W0 Post (G { (FB.at ⟨g,.normal,none,[]⟩ a' todo) with mode := .returning } []) w' ft' := by
  intro f' h' ρ' w' ft' a' todo q A' H' hu hl
  exact leave_top2 (b := ⟨g,.normal,none,[]⟩) (f := f') (n0 := h.length) (ρ := ρ') rfl hf hin (fun v h2 ρ2 w2 ft2 cv k H2 u2 l2 v2 => hc v h2 ρ2 w2 ft2 cv k H2 (Env.bG hu u2) l2 v2) f'.ds h' w' ft' a' _ rfl rfl rfl rfl ((List.append_nil _).trans A'.defers) A'.ax H' hl q
 refine bH hJ hm c hs ⟨g,.normal,none,[]⟩ _ [] [] (fun jump a w ft => jump = some .ret ∧ ∀ todo,J2 P W0 Post (G { (FB.at ⟨g,.normal,none,[]⟩ a todo) with mode := .returning } []) w ft) ρ FC w ft rfl (by simp) ?_ A H (Nat.le_refl _) ?_
 ·rintro jump a w ft todo ⟨rfl,hj⟩ hh
  rcases hh with ⟨_,k,rfl⟩ | ⟨id,k,e,_⟩ | ⟨e,_⟩
  ·exact hJ.dH rfl rfl (fun w => by simp [G,stepG,stepG.exec,FB.at]) (hj (.code .ret :: k))
  ·cases e
  ·cases e
 ·intro e f' h' ρ' w' ft' a' q A' H' hu hl
  cases e with
  | normal => exact hJ.dH rfl rfl (fun w => by simp [G,stepG,stepG.exec,FB.at]) (last f' h' ρ' w' ft' a' [] q A' H' hu hl)
  | ret => exact ⟨rfl,fun todo => last f' h' ρ' w' ft' a' todo q A' H' hu hl⟩
  | exit id => exact q.elim
  | goto l => exact q.elim
  | panic l => exact q.elim
  | outgrown => exact q.elim
end
end Go.Proofs.YtlhanfcgdfjhjaaGreatDoor
