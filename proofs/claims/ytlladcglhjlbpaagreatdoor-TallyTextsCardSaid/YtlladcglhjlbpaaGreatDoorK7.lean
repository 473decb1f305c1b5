/- The card of TallyTexts: it answers true at every input, its arguments read as before, and what its row lists is tied to the program's text. -/
import Derived.Test.YtlladcglhjlbpaaGreatDoorK2
import Derived.Test.YtlladcglhjlbpaaGreatDoorK6
import Derived.Test.YtlladcglhjlbpaaGreatDoorK4
import Derived.Test.YtlladcglhjlbpaaGreatDoorK5
import Derived.Below
import Derived.Test.YtlladcglhjlbpaaGreatDoorRows
import Derived.Conc.LeavingOf
import Derived.ChangeSlices
import Derived.OpenShut
import Derived.Carry
import Derived.Handed
import Derived.Test.YtlladcglhjlbpaaGreatDoorK3
import Derived.Deep.Slices
import Derived.LaidLaws
import Derived.LaidHandle
import Derived.Deep.DeepLaidRun
import Derived.ChangeMaps5
import Derived.JoinedOf
import Derived.Test.YtlladcglhjlbpaaGreatDoorTie
import Derived.Test.YtlladcglhjlbpaaGreatDoorCards
import Derived.SevenTiedAt
namespace Go.Proofs.YtlladcglhjlbpaaGreatDoor
open Go.Conc Go.Proofs.Tryz
set_option maxRecDepth 100000
set_option maxHeartbeats 4000000
set_option linter.unusedVariables false
section
variable {main : Bool} {J : JT} {n0 : Nat} {h : List AObj} {K : Value → List AObj → Prop}
theorem at38 : prog.funcs[38]? = some f38 := by kernel_rfl
theorem body38 : f38.body = some (codeOf f38) := by kernel_rfl
def pl38 : Plans := [(3,true,.alt 0 false (.take 2 (.last 1 false (.take 3 (.fin)))) (.last 1 false (.last 0 false (.take 2 (.take 3 (.fin)))))),
 (7,true,.take 0 (.take 1 (.take 2 (.take 3 (.take 4 (.take 5 (.take 6 (.take 7 (.take 8 (.last 9 false (.take 10 (.take 11 (.take 12 (.take 13 (.take 14 (.fin)))))))))))))))),
 (11,true,.take 0 (.take 1 (.take 2 (.take 3 (.take 4 (.take 5 (.take 6 (.take 7 (.take 8 (.take 9 (.take 10 (.take 11 (.take 12 (.last 13 false (.take 14 (.fin))))))))))))))))]
def ct38 : Cuts := .bin (.go) (.bin (.bin (.go) (.cut (.go))) (.bin (.go) (.cut (.go))))
theorem pok38 : plansOk prog pl38 (codeOf f38) = true := by kernel_rfl
theorem e38 {a0 : Value} : W prog J 58 h.length 38 (codeOf f38) (RG.mk (regs [a0]) []) h (RetQ prog [.cell 2 59,.tmp 3] h.length K) =
(aAlloc [(vint 0),(vint 0),(vint 0),(vint 0)] h fun v1 h2 =>
aLenS a0 fun v3 =>
aBin prog .neq 3 v3 (vint 5) fun v4 =>
cnd v4
(Hold (W prog J 58 h.length 38 (subC [1,0,1] (codeOf f38)) (RG.p (RG.p (RG.p (RG.p (RG.p (RG.p (RG.p (RG.p (RG.p (RG.p (RG.p (RG.p (RG.mk (regs [a0]) []) 2 v1) 3 (Value.bool false)) 9 a0) 10 v3) 11 v4) 12 v4) 12 (Value.bool true)) 13 undef) 14 undef) 15 undef) 16 undef) 17 (Value.bool true)) h2 (contX pl38 prog J 58 h.length 38 ct38 [1,0,1] (codeOf f38) [] (RetQ prog [.cell 2 59,.tmp 3] h.length K))))
(aIdx 1 a0 (vint 0) fun v5 =>
aLoad false 1 v5 h2 fun v6 =>
aBin prog .neq 9 v6 (Value.string { data := #[99,111,117,110,116] }) fun v7 =>
Hold (W prog J 58 h.length 38 (subC [1,0,1] (codeOf f38)) (RG.p (RG.p (RG.p (RG.p (RG.p (RG.p (RG.p (RG.p (RG.p (RG.p (RG.p (RG.p (RG.mk (regs [a0]) []) 2 v1) 3 (Value.bool false)) 9 a0) 10 v3) 11 v4) 12 v4) 12 (Value.bool false)) 13 a0) 14 v5) 15 v6) 16 v7) 17 v7) h2 (contX pl38 prog J 58 h.length 38 ct38 [1,0,1] (codeOf f38) [] (RetQ prog [.cell 2 59,.tmp 3] h.length K))))) := top_eq pok38 ct38 (by kernel_rfl)
theorem g38 (hJ : Closed prog main J) {a0 : Value} (hs : heapOk h → W prog J 58 h.length 38 (codeOf f38) (RG.mk (regs [a0]) []) h (RetQ prog [.cell 2 59,.tmp 3] h.length K)) : Good prog J 38 [a0] h K :=
 good_of_W hJ mixed at38 body38 (by kernel_rfl) (Nat.le_of_ble_eq_true rfl) hs
theorem s38_1 {f : RG} : W prog J 58 n0 38 (subC [1,0,1] (codeOf f38)) f h (contX pl38 prog J 58 n0 38 ct38 [1,0,1] (codeOf f38) [] (RetQ prog [.cell 2 59,.tmp 3] n0 K)) =
(cnd (f.r 17)
(aFill [(vint 0),(vint 0),(vint 0),(vint 0)] [] fun c1 =>
aStore 4 (f.r 2) (Value.agg ⟨c1⟩) h fun h2 =>
RetQ prog [.cell 2 59,.tmp 3] n0 K .ret (RG.p (RG.p f 18 (Value.agg ⟨c1⟩)) 3 (Value.bool false)) h2)
(((((4 * 1 : Nat) ≤ 16777216 ∧ (4 : Nat) ≤ 16777216 ∧ List.length [(Value.string { data := #[] })] = 1) ∧ aFill (zrep [(Value.string { data := #[] })] 4) [(0,1,(Value.string { data := #[103,97,116,101,61] })),(1,1,(Value.string { data := #[109,97,110,61] })),(2,1,(Value.string { data := #[110,117,109,98,101,114,61] })),(3,1,(Value.string { data := #[101,114,114,61] }))] fun c3 =>
aNewS 4 c3 h fun v4 h5 =>
((List.length [(vint 0)] = 1 ∧ (8 : Nat) ≤ 1024) ∧ aMkS [(vint 0)] (vint 4) (vint 4) h5 fun v6 h7 =>
Hold (W prog J 58 n0 38 (subC [1,1,1] (codeOf f38)) (RG.p (RG.p (RG.p (RG.p f 19 v4) 4 v4) 20 v6) 5 v6) h7 (contX pl38 prog J 58 n0 38 ct38 [1,1,1] (codeOf f38) [] (RetQ prog [.cell 2 59,.tmp 3] n0 K)))))) ∧ (((List.length [(vint 0)] = 1 ∧ (8 : Nat) ≤ 1024) ∧ aMkS [(vint 0)] (vint 4) (vint 4) h fun v8 h9 =>
(((4 * 1 : Nat) ≤ 16777216 ∧ (4 : Nat) ≤ 16777216 ∧ List.length [(Value.string { data := #[] })] = 1) ∧ aFill (zrep [(Value.string { data := #[] })] 4) [(0,1,(Value.string { data := #[103,97,116,101,61] })),(1,1,(Value.string { data := #[109,97,110,61] })),(2,1,(Value.string { data := #[110,117,109,98,101,114,61] })),(3,1,(Value.string { data := #[101,114,114,61] }))] fun c10 =>
aNewS 4 c10 h9 fun v11 h12 =>
Hold (W prog J 58 n0 38 (subC [1,1,1] (codeOf f38)) (RG.p (RG.p (RG.p (RG.p f 20 v8) 19 v11) 4 v11) 5 v8) h12 (contX pl38 prog J 58 n0 38 ct38 [1,1,1] (codeOf f38) [] (RetQ prog [.cell 2 59,.tmp 3] n0 K)))))))) := sub_eq pok38 ct38 (by kernel_rfl)
theorem s38_2 {f : RG} : W prog J 58 n0 38 (subC [1,1,1] (codeOf f38)) f h (contX pl38 prog J 58 n0 38 ct38 [1,1,1] (codeOf f38) [] (RetQ prog [.cell 2 59,.tmp 3] n0 K)) =
(Sem J 58 n0 38 (subC yp1 (codeOf f38)) (RG.p f 6 (vint 0)) h (contX pl38 prog J 58 n0 38 ct38 yp1 (codeOf f38) [] (RetQ prog [.cell 2 59,.tmp 3] n0 K))) := sub_eq pok38 ct38 (by kernel_rfl)
theorem s38_3 {f : RG} {nx0 : RG → List AObj → Prop} : W prog J 58 n0 38 (subC yp6 (codeOf f38)) f h (thenK nx0 (contX pl38 prog J 58 n0 38 ct38 yp1 (codeOf f38) [] (RetQ prog [.cell 2 59,.tmp 3] n0 K))) =
(aBin prog .lss 3 (f.r 6) (vint 4) fun v1 =>
cnd v1
(aBin prog .add 3 (f.r 6) (vint 1) fun v2 =>
aIdx 1 (f.r 0) v2 fun v3 =>
aLoad false 1 v3 h fun v4 =>
aIdx 1 (f.r 4) (f.r 6) fun v5 =>
aLoad false 1 v5 h fun v6 =>
Good prog J 65 [v4,v6] h fun v7 h8 =>
aExt v7 0 fun v9 =>
aExt v7 1 fun v10 =>
aUn .not v10 fun v11 =>
cnd v11
(aFill [(vint 0),(vint 0),(vint 0),(vint 0)] [] fun c12 =>
aStore 4 (f.r 2) (Value.agg ⟨c12⟩) h8 fun h13 =>
RetQ prog [.cell 2 59,.tmp 3] n0 K .ret (RG.p (RG.p (RG.p (RG.p (RG.p (RG.p (RG.p (RG.p (RG.p (RG.p (RG.p (RG.p (RG.p (RG.p (RG.p (RG.p (RG.p (RG.p (RG.p (RG.p (RG.p f 21 (f.r 6)) 22 v1) 26 (f.r 0)) 27 (f.r 6)) 28 v2) 29 v3) 30 v4) 31 (f.r 4)) 32 (f.r 6)) 33 v5) 34 v6) 35 v7) 25 v7) 36 v9) 37 v10) 7 v9) 8 v10) 38 v10) 39 v11) 40 (Value.agg ⟨c12⟩)) 3 (Value.bool false)) h13)
(aIdx 1 (f.r 5) (f.r 6) fun v14 =>
aStore 1 v14 v9 h8 fun h15 =>
aBin prog .add 3 (f.r 6) (vint 1) fun v16 =>
nx0 (RG.p (RG.p (RG.p (RG.p (RG.p (RG.p (RG.p (RG.p (RG.p (RG.p (RG.p (RG.p (RG.p (RG.p (RG.p (RG.p (RG.p (RG.p (RG.p (RG.p (RG.p (RG.p (RG.p (RG.p (RG.p (RG.p f 21 (f.r 6)) 22 v1) 26 (f.r 0)) 27 (f.r 6)) 28 v2) 29 v3) 30 v4) 31 (f.r 4)) 32 (f.r 6)) 33 v5) 34 v6) 35 v7) 25 v7) 36 v9) 37 v10) 7 v9) 8 v10) 38 v10) 39 v11) 41 (f.r 5)) 42 (f.r 6)) 43 v9) 44 v14) 23 (f.r 6)) 24 v16) 6 v16) h15))
(aIdx 1 (f.r 5) (vint 0) fun v17 =>
aLoad false 1 v17 h fun v18 =>
aIdx 1 (f.r 5) (vint 1) fun v19 =>
aLoad false 1 v19 h fun v20 =>
aIdx 1 (f.r 5) (vint 2) fun v21 =>
aLoad false 1 v21 h fun v22 =>
aIdx 1 (f.r 5) (vint 3) fun v23 =>
aLoad false 1 v23 h fun v24 =>
aFill [(vint 0),(vint 0),(vint 0),(vint 0)] [(0,1,v18),(1,1,v20),(2,1,v22),(3,1,v24)] fun c25 =>
aStore 4 (f.r 2) (Value.agg ⟨c25⟩) h fun h26 =>
RetQ prog [.cell 2 59,.tmp 3] n0 K .ret (RG.p (RG.p (RG.p (RG.p (RG.p (RG.p (RG.p (RG.p (RG.p (RG.p (RG.p (RG.p (RG.p (RG.p (RG.p (RG.p f 21 (f.r 6)) 22 v1) 45 (f.r 5)) 46 v17) 47 v18) 48 (f.r 5)) 49 v19) 50 v20) 51 (f.r 5)) 52 v21) 53 v22) 54 (f.r 5)) 55 v23) 56 v24) 57 (Value.agg ⟨c25⟩)) 3 (Value.bool true)) h26)) := sub_eq pok38 ct38 (by kernel_rfl)
theorem l38_3 (hJ : Closed prog main J) {S : Type} (μ : S → Nat) (I : S → RG → List AObj → Prop) (hI : ∀ s f h,I s f h → heapOk h → n0 ≤ h.length → W prog J 58 n0 38 (subC yp6 (codeOf f38)) f h (thenK (Nx n0 μ I s) (contX pl38 prog J 58 n0 38 ct38 yp1 (codeOf f38) [] (RetQ prog [.cell 2 59,.tmp 3] n0 K))))
 {s : S} {f : RG} (hi : Gets n0 I s f h) : Sem J 58 n0 38 (subC yp1 (codeOf f38)) f h (contX pl38 prog J 58 n0 38 ct38 yp1 (codeOf f38) [] (RetQ prog [.cell 2 59,.tmp 3] n0 K)) :=
 loop_rule hJ mixed (b := subC yp6 (codeOf f38)) (by kernel_rfl) μ I hI hi
end
end Go.Proofs.YtlladcglhjlbpaaGreatDoor
namespace Go.Proofs.YtlladcglhjlbpaaGreatDoor
open Go.Conc Go.Proofs.Tryz
set_option maxRecDepth 100000
def headW3 (w : List (List UInt8)) : Option Tal :=
 match w with
 | [a,b,c] => (numB wGates a).bind fun g => (rngB wFirst b).bind fun r => (numB wLost c).map fun m => ⟨g,r,[],m,[]⟩
 | _ => none
theorem countT_five {x a u c d : List UInt8} (hx : x = wCount) : countT [x,a,u,c,d] = (numB wGate a).bind fun g => (numB wMan u).bind fun m => (numB wNumber c).bind fun n => (numB wErr d).map fun e => ⟨g,m,n,e⟩ := if_pos hx
theorem headT_w3 (s : List UInt8) : headT s = headW3 (partsB 32 s) := rfl
section
variable {main : Bool} {J : JT} {H : List AObj} {K : Value → List AObj → Prop} {KV : Value → Prop} {F : RG} {n0 : Nat}
theorem good65q (hJ : Closed prog main J) {w p : List UInt8} (hw : w.length ≤ 2000) (k : ∀ n q,(afterB p w).bind wholeB = (bif q then some n else none) → K (.tuple ⟨[vint n,.bool q]⟩) H) : Good prog J 65 [strV w,strV p] H K :=
 good65 hJ hw (fun n h => k n true h) fun h => k 0 false h
theorem good37q (hJ : Closed prog main J) {w p : List UInt8} (hw : w.length ≤ 2000) (k : ∀ r q,rngE p w = (bif q then some r else none) → K (.tuple ⟨[r.val,.bool q]⟩) H) : Good prog J 37 [strV w,strV p] H K :=
 good37 hJ hw (fun r h => k r true h) fun h r => k r false h
theorem thd_2 {q1 q2 q3 : Bool} (ds : F.ds = []) (r6 : F.r 6 = .bool q1) (r8 : F.r 8 = .bool q2) (r10 : F.r 10 = .bool q3) (kk : K (.bool (q1 && (q2 && q3))) H) :
  W prog J 54 n0 39 (subC [1,1,1,1,1,1] (codeOf f39)) F H (contX pl39 prog J 54 n0 39 ct39 [1,1,1,1,1,1] (codeOf f39) [] (RetQ prog [.tmp 4] n0 K)) := by
 rw [s39_2]
 simp only [ds,r6,r8,r10]
 cases q1 with
 | true =>
  refine cnd_true.2 ?_
  cases q2 with
  | true => exact cnd_true.2 (retL_same (by simp [unk]) kk)
  | false => exact cnd_false.2 (retL_same (by simp [unk]) kk)
 | false => exact cnd_false.2 (retL_same (by simp [unk]) kk)
theorem thd_1 {x c : Int} {r : Rng} {q1 q2 q3 : Bool} {b q : Nat} (ds : F.ds = []) (r0 : F.r 0 = ptr b 0) (r7 : F.r 7 = ptr q 0) (r5 : F.r 5 = vint x) (r6 : F.r 6 = .bool q1) (r8 : F.r 8 = .bool q2) (r9 : F.r 9 = vint c) (r10 : F.r 10 = .bool q3)
  (cb : H[b]? = some (.cells talZ true 0)) (cq : H[q]? = some (.cells r.cells true 0)) (hbq : b ≠ q)
  (kk : ∀ H',SameX [b] H H' → H'[b]? = some (.cells (talCells ⟨x,r,[],c,[]⟩ (.slice none 0 0) (.slice none 0 0)) true 0) → K (.bool (q1 && (q2 && q3))) H') :
  W prog J 54 n0 39 (subC yp8 (codeOf f39)) F H (contX pl39 prog J 54 n0 39 ct39 yp8 (codeOf f39) [] (RetQ prog [.tmp 4] n0 K)) := by
 rw [s39_1]
 simp only [r0,r5,r7,r9]
 refine ⟨[q],load_part (c := r.cells) cq (by simp [Rng.cells]) rfl rfl ⟨by simp [RdOk,ptr,ptrBlk],nilI (offI (qSt cb (by simp) rfl rfl fun H1 S1 c1 l1 => ⟨fun y hy => ?_,nilI (offI ?_)⟩))⟩⟩
 ·have hy : y = q := by simpa using hy
  subst hy
  exact S1.2 y (lt_of_get cq) (by simpa using hbq.symm)
 refine qSt2 (x := vint r.lo) (y := vint r.hi) c1 (by simp) rfl rfl fun H2 S2 c2 l2 => nilI (offI (qSt c2 (by simp) rfl rfl fun H3 S3 c3 l3 => hold.2 ?_))
 have S13 : SameX [b] H H3 := (S1.trans S2).trans S3
 exact thd_2 ds r6 r8 r10 (kk H3 S13 c3)
theorem good39 (hJ : Closed prog main J) {b : Nat} {w : List (List UInt8)} {wv : Value} (cb : H[b]? = some (.cells talZ true 0)) (sl : Sli H wv 1 w.length (w.map strV)) (hw : ∀ u ∈ w,u.length ≤ 2000)
  (k1 : ∀ t,headW3 w = some t → t.changes = [] → t.counts = [] → ∀ H',SameX [b] H H' → H'[b]? = some (.cells (talCells t (.slice none 0 0) (.slice none 0 0)) true 0) → K (.bool true) H') (k2 : headW3 w = none → ∀ H',SameX [b] H H' → K (.bool false) H') : Good prog J 39 [ptr b 0,wv] H K := by
 refine g39 hJ fun ok => ?_
 rw [e39]
 refine lenI sl (neqI (cndI (fun h => retL_same (by simp [unk]) (k2 ?_ H SameX.refl)) fun h => ?_))
 ·match w,h with
  | [],_ => rfl
  | [_],_ => rfl
  | [_,_],_ => rfl
  | [_,_,_],h => exact absurd rfl h
  | _ :: _ :: _ :: _ :: _,_ => rfl
 have hl3 : w.length = 3 := by omega
 match w,hl3 with
 | [a,u,c],_ =>
  have hi : ∀ k : Int,0 ≤ k → k < 3 → 0 ≤ k ∧ k < (([a,u,c] : List (List UInt8)).length : Int) := fun k h1 h2 => ⟨h1,h2⟩
  refine idx_load (x := strV a) sl (hi 0 (by decide) (by decide)) rfl fun _ => ?_
  refine good65q (p := wGates ++ [61]) hJ (hw a (by simp)) ?_
  intro x q1 h1
  refine ext0 (ext1 ?_)
  refine idx_load (x := strV u) sl (hi 1 (by decide) (by decide)) rfl fun _ => ?_
  refine good37q (p := wFirst ++ [61]) hJ (hw u (by simp)) ?_
  intro r q2 h2
  refine ext0 (ext1 ?_)
  refine qAl fun H1 q e1 S1 c1 l1 => qStA (c := r.cells) c1 rfl rfl rfl fun H2 S2 c2 l2 => ?_
  have S02 : SameX [] H H2 := S1.thru S2 (by simp; omega)
  refine idx_load (x := strV c) (S02.sli sl (by simp)) (hi 2 (by decide) (by decide)) rfl fun _ => ?_
  refine good65q (p := wLost ++ [61]) hJ (hw c (by simp)) ?_
  intro m q3 h3
  refine ext0 (ext1 (hold.2 ?_))
  have cb2 := S02.get cb (by simp)
  have hbl := lt_of_get cb
  refine thd_1 (x := x) (c := m) (r := r) (q1 := q1) (q2 := q2) (q3 := q3) (b := b) (q := q) rfl rfl rfl rfl rfl rfl rfl rfl cb2 c2 (by omega) fun H' S' c' => ?_
  have S0 : SameX [b] H H' := S02.weak0.trans S'
  have hh : headW3 [a,u,c] = (numB wGates a).bind fun g => (rngB wFirst u).bind fun r => (numB wLost c).map fun m => ⟨g,r,[],m,[]⟩ := rfl
  have h1 : numB wGates a = _ := h1
  have h2 : rngB wFirst u = _ := h2
  have h3 : numB wLost c = _ := h3
  rw [h1,h2,h3] at hh
  cases q1 with
  | false => exact k2 hh H' S0
  | true =>
   cases q2 with
   | false => exact k2 hh H' S0
   | true =>
    cases q3 with
    | false => exact k2 hh H' S0
    | true => exact k1 _ hh rfl rfl H' S0 c'
def cntNms : List (List UInt8) := [wGate ++ [61],wMan ++ [61],wNumber ++ [61],wErr ++ [61]]
theorem good38 (hJ : Closed prog main J) {w : List (List UInt8)} {wv : Value} (sl : Sli H wv 1 w.length (w.map strV)) (hw : ∀ u ∈ w,u.length ≤ 2000)
  (k : ∀ c q,countT w = (bif q then some c else none) → K (.tuple ⟨[c.val,.bool q]⟩) H) : Good prog J 38 [wv] H K := by
 refine g38 hJ fun ok => ?_
 rw [e38]
 have htk : tk prog 59 = some (true,4) := by kernel_rfl
 refine qAl fun H1 b e1 S1 c1 l1 => ?_
 -- the way back
 have back : ∀ {F : RG} {H' : List AObj} {c : Cnt} {q : Bool},F.ds = [] → F.r 2 = ptr b 0 → F.r 3 = .bool q → SameX [] H H' → H'[b]? = some (.cells c.cells true 0) → countT w = (bif q then some c else none) → RetQ prog [.cell 2 59,.tmp 3] H.length K .ret F H' := by
  intro F H' c q ds r2 r3 S cb hk
  obtain ⟨g,rfl⟩ := S.app0 (by simp)
  refine retQ_drop ds ok (Nat.le_refl _) (resW_cell htk ?_)
  rw [r2]
  refine load_part (c := c.cells) cb (by simp [Cnt.cells]) rfl rfl (resW_tmp (by rw [r3]; simp [unk]) (resW_nil ?_))
  rw [r3]
  exact ⟨by simp [pack,VOk,AOk,LOk,Cnt.cells],k c q hk⟩
 have sl1 := S1.sli sl (by simp)
 have go : ∀ {F : RG} {q : Bool},F.ds = [] → F.r 0 = wv → F.r 2 = ptr b 0 → F.r 17 = .bool q → (q = true → countT w = none) → (q = false → ∃ a u c d,w = [wCount,a,u,c,d]) → _ := fun {F q} ds r0 r2 r17 h1 h2 => show W prog J 58 H.length 38 (subC [1,0,1] (codeOf f38)) F H1 (contX pl38 prog J 58 H.length 38 ct38 [1,0,1] (codeOf f38) [] (RetQ prog [.cell 2 59,.tmp 3] H.length K)) by
  rw [s38_1]
  simp only [r2,r17]
  cases q with
  | true => exact cnd_true.2 (fillI (qStA (c := (⟨0,0,0,0⟩ : Cnt).cells) c1 rfl rfl rfl fun H2 S2 c2 l2 => back ds r2 rfl (S1.thru S2 (by simp; omega)) c2 (h1 rfl)))
  | false =>
   obtain ⟨a,u,c,d,rfl⟩ := h2 rfl
   refine cnd_false.2 ?_
   -- behind both lists
   have rest : ∀ {F : RG} {H3 : List AObj} {pm pn : Nat},F.ds = [] → F.r 0 = wv → F.r 2 = ptr b 0 → F.r 4 = .slice (some ⟨pm,0,none⟩) 4 4 → F.r 5 = .slice (some ⟨pn,0,none⟩) 4 4 → SameX [] H1 H3 → H1.length ≤ pm → H1.length ≤ pn → pm ≠ pn → H3[pm]? = some (.cells (cntNms.map strV) true 0) → H3[pn]? = some (.cells ([0,0,0,0].map vint) true 0) → _ := fun {F H3 pm pn} ds r0 r2 r4 r5 S3 hpm hpn hne cm cn => show W prog J 58 H.length 38 (subC [1,1,1] (codeOf f38)) F H3 (contX pl38 prog J 58 H.length 38 ct38 [1,1,1] (codeOf f38) [] (RetQ prog [.cell 2 59,.tmp 3] H.length K)) by
    rw [s38_2]
    refine l38_3 hJ (S := Nat) (fun i => 5 - i) (fun i F H' => ∃ l : List Int,l.length = 4 ∧ i ≤ 4 ∧ F.ds = [] ∧ F.r 0 = wv ∧ F.r 2 = ptr b 0 ∧ F.r 4 = .slice (some ⟨pm,0,none⟩) 4 4 ∧ F.r 5 = .slice (some ⟨pn,0,none⟩) 4 4 ∧ F.r 6 = vint (i : Nat) ∧ SameX [] H1 H' ∧ H'[pm]? = some (.cells (cntNms.map strV) true 0) ∧ H'[pn]? = some (.cells (l.map vint) true 0) ∧
     ∀ j nm x,j < i → cntNms[j]? = some nm → [a,u,c,d][j]? = some x → (afterB nm x).bind wholeB = l[j]?) ?_ (s := 0) (.inl ⟨[0,0,0,0],rfl,by omega,ds,r0,r2,r4,r5,rfl,S3,cm,cn,fun j _ _ hj => by omega⟩)
    rintro i F H' ⟨l,hl,hi,ds,r0,r2,r4,r5,r6,S,cm,cn,hall⟩ ok' hn'
    rw [s38_3]
    simp only [r0,r2,r4,r5,r6]
    have hct : countT [wCount,a,u,c,d] = (numB wGate a).bind fun g => (numB wMan u).bind fun m => (numB wNumber c).bind fun n => (numB wErr d).map fun e => ⟨g,m,n,e⟩ := countT_five rfl
    have S0 : SameX [] H H' := S1.trans S
    have cb := S.get c1 (by simp)
    have slw := S.sli sl1 (by simp)
    have slm : Sli H' (.slice (some ⟨pm,0,none⟩) 4 4) 1 4 (cntNms.map strV) := sli_new cm rfl (kn_str _)
    have sln : Sli H' (.slice (some ⟨pn,0,none⟩) 4 4) 1 4 (l.map vint) := sli_new cn (by simp [hl]) (kn_ints _)
    refine lssI (cndI (fun hlt => ?_) fun hge => ?_)
    ·obtain ⟨nm,hnm⟩ : ∃ nm,cntNms[i]? = some nm := ⟨cntNms[i]'(by show i < 4; omega),List.getElem?_eq_getElem _⟩
     obtain ⟨x,hx⟩ : ∃ x,[a,u,c,d][i]? = some x := ⟨[a,u,c,d][i]'(by show i < 4; omega),List.getElem?_eq_getElem _⟩
     have hxw : ([wCount,a,u,c,d].map strV)[((i : Int) + 1).toNat]? = some (strV x) := by
      have : ((i : Int) + 1).toNat = i + 1 := by omega
      rw [this,List.map_cons,List.getElem?_cons_succ,List.getElem?_map,hx]
      rfl
     have hxl : x.length ≤ 2000 := hw x (by have := List.mem_of_getElem? hx; simp at this ⊢; exact .inr this)
     refine addI (by omega) (idx_load (x := strV x) slw ⟨by omega,by show (i : Int) + 1 < 5; omega⟩ hxw fun _ => idx_load (x := strV nm) slm ⟨by omega,by omega⟩ (by rw [Int.toNat_natCast,List.getElem?_map,hnm]; rfl) fun _ => ?_)
     refine good65q hJ hxl fun n q hq => ext0 (ext1 (notI ?_))
     cases q with
     | true =>
      refine cnd_false.2 (idxI ⟨by omega,by omega⟩ (qSt cn (by simp [hl]; omega) rfl rfl fun H5 S5 c5 l5 => addI (by omega) ⟨i + 1,by dsimp only; omega,.inl ⟨l.set i n,by simp [hl],by omega,ds,r0,r2,r4,r5,rfl,S.thru S5 (by simp; omega),S5.get cm (by simpa using hne),?_,fun j nm' x' hj hnm' hx' => ?_⟩⟩))
      ·rw [c5]
       have : 0 + ((i : Nat) : Int).toNat * 1 = i := by simp
       rw [this,List.map_set]
      ·by_cases hji : j = i
       ·subst hji
        rw [hnm] at hnm'
        rw [hx] at hx'
        cases hnm'
        cases hx'
        rw [hq,List.getElem?_set_self (by omega)]
        rfl
       ·rw [List.getElem?_set_ne (fun e => hji e.symm)]
        exact hall j nm' x' (by omega) hnm' hx'
     | false =>
      refine cnd_true.2 (fillI (qStA (c := (⟨0,0,0,0⟩ : Cnt).cells) cb rfl rfl rfl fun H5 S5 c5 l5 => back (q := false) ds r2 rfl (S0.thru S5 (by simp; omega)) c5 ?_))
      have hq : (afterB nm x).bind wholeB = none := hq
      rw [hct]
      show _ = none
      have g : ∀ j nm' x',j < i → cntNms[j]? = some nm' → [a,u,c,d][j]? = some x' → ∃ z,(afterB nm' x').bind wholeB = some z := fun j nm' x' hj h1 h2 => ⟨l[j]'(by omega),by rw [hall j nm' x' hj h1 h2]; exact List.getElem?_eq_getElem _⟩
      match i,hlt,hnm,hx,g with
      | 0,_,hnm,hx,_ =>
       cases hnm
       cases hx
       have hq : numB wGate a = none := hq
       rw [hq]
       rfl
      | 1,_,hnm,hx,g =>
       cases hnm
       cases hx
       have hq : numB wMan u = none := hq
       obtain ⟨z0,h0⟩ := g 0 _ _ (by omega) rfl rfl
       have h0 : numB wGate a = some z0 := h0
       rw [h0,Option.bind_some,hq]
       rfl
      | 2,_,hnm,hx,g =>
       cases hnm
       cases hx
       have hq : numB wNumber c = none := hq
       obtain ⟨z0,h0⟩ := g 0 _ _ (by omega) rfl rfl
       obtain ⟨z1,h1⟩ := g 1 _ _ (by omega) rfl rfl
       have h0 : numB wGate a = some z0 := h0
       have h1 : numB wMan u = some z1 := h1
       rw [h0,Option.bind_some,h1,Option.bind_some,hq]
       rfl
      | 3,_,hnm,hx,g =>
       cases hnm
       cases hx
       have hq : numB wErr d = none := hq
       obtain ⟨z0,h0⟩ := g 0 _ _ (by omega) rfl rfl
       obtain ⟨z1,h1⟩ := g 1 _ _ (by omega) rfl rfl
       obtain ⟨z2,h2⟩ := g 2 _ _ (by omega) rfl rfl
       have h0 : numB wGate a = some z0 := h0
       have h1 : numB wMan u = some z1 := h1
       have h2 : numB wNumber c = some z2 := h2
       rw [h0,Option.bind_some,h1,Option.bind_some,h2,Option.bind_some,hq]
       rfl
      | i + 4,hlt,_,_,_ => exact absurd hlt (by omega)
    ·have hi4 : i = 4 := by omega
     subst hi4
     match l,hl with
     | [z0,z1,z2,z3],_ =>
      refine idx_load (x := vint z0) sln ⟨by decide,by decide⟩ rfl fun _ => idx_load (x := vint z1) sln ⟨by decide,by decide⟩ rfl fun _ => idx_load (x := vint z2) sln ⟨by decide,by decide⟩ rfl fun _ => idx_load (x := vint z3) sln ⟨by decide,by decide⟩ rfl fun _ => ?_
      refine fill_four (l := [vint z0]) rfl rfl rfl (by decide) (fill_four (l := [vint z1]) rfl rfl rfl (by simp [wrAt]) (fill_four (l := [vint z2]) rfl rfl rfl (by simp [wrAt]) (fill_four (l := [vint z3]) rfl rfl rfl (by simp [wrAt]) (fillI ?_))))
      refine qStA (c := (⟨z0,z1,z2,z3⟩ : Cnt).cells) cb rfl rfl rfl fun H5 S5 c5 l5 => back (q := true) ds r2 rfl (S0.thru S5 (by simp; omega)) c5 ?_
      have h0 : numB wGate a = some z0 := hall 0 _ _ (by omega) rfl rfl
      have h1 : numB wMan u = some z1 := hall 1 _ _ (by omega) rfl rfl
      have h2 : numB wNumber c = some z2 := hall 2 _ _ (by omega) rfl rfl
      have h3 : numB wErr d = some z3 := hall 3 _ _ (by omega) rfl rfl
      rw [hct,h0,Option.bind_some,h1,Option.bind_some,h2,Option.bind_some,h3]
      rfl
   refine ⟨⟨⟨by decide,by decide,rfl⟩,fill_four (l := [strV (wGate ++ [61])]) rfl rfl rfl (by simp [zrep]) (fill_four (l := [strV (wMan ++ [61])]) rfl rfl rfl (by simp [wrAt,zrep]) (fill_four (l := [strV (wNumber ++ [61])]) rfl rfl rfl (by simp [wrAt,zrep]) (fill_four (l := [strV (wErr ++ [61])]) rfl rfl rfl (by simp [wrAt,zrep]) (fillI (qNew fun H2 p2 e2 S2 c2 l2 => ⟨⟨rfl,by decide⟩,qMk (n := 4) (by omega) fun H3 p3 e3 S3 c3 l3 => hold.2 ?_⟩)))))⟩,
    ⟨rfl,by decide⟩,qMk (n := 4) (by omega) fun H2 p2 e2 S2 c2 l2 => ⟨⟨by decide,by decide,rfl⟩,fill_four (l := [strV (wGate ++ [61])]) rfl rfl rfl (by simp [zrep]) (fill_four (l := [strV (wMan ++ [61])]) rfl rfl rfl (by simp [wrAt,zrep]) (fill_four (l := [strV (wNumber ++ [61])]) rfl rfl rfl (by simp [wrAt,zrep]) (fill_four (l := [strV (wErr ++ [61])]) rfl rfl rfl (by simp [wrAt,zrep]) (fillI (qNew fun H3 p3 e3 S3 c3 l3 => hold.2 ?_)))))⟩⟩
   ·exact rest ds r0 r2 rfl rfl (S2.trans S3) (by omega) (by omega) (by omega) (S3.get c2 (by simp)) c3
   ·exact rest ds r0 r2 rfl rfl (S2.trans S3) (by omega) (by omega) (by omega) c3 (S3.get c2 (by simp))
 refine lenI sl1 (neqI (cndI (fun h => hold.2 ?_) fun h => ?_))
 ·exact go rfl rfl rfl rfl (fun _ => countT_len (by omega)) fun e => by cases e
 ·have hl5 : w.length = 5 := by omega
  match w,hl5 with
  | [x,a,u,c,d],_ =>
   refine idx_load (x := strV x) sl1 ⟨by decide,by simp⟩ rfl fun _ => neS (hold.2 (go rfl rfl rfl rfl (fun h => ?_) fun h => ?_))
   ·have h : x ≠ wCount := of_decide_eq_true h
    exact if_neg h
   ·have h : x = wCount := Decidable.not_not.1 (of_decide_eq_false h)
    subst h
    exact ⟨a,u,c,d,rfl⟩
end
end Go.Proofs.YtlladcglhjlbpaaGreatDoor
namespace Go.Proofs.YtlladcglhjlbpaaGreatDoor
open Go.Conc Go.Proofs.Tryz
set_option maxRecDepth 100000
set_option maxHeartbeats 4000000
set_option linter.unusedVariables false
section
variable {main : Bool} {J : JT} {n0 : Nat} {h : List AObj} {K : Value → List AObj → Prop}
theorem at13 : prog.funcs[13]? = some f13 := by kernel_rfl
theorem body13 : f13.body = some (codeOf f13) := by kernel_rfl
def pl13 : Plans := []
def ct13 : Cuts := .bin (.go) (.bin (.go) (.bin (.go) (.bin (.go) (.bin (.go) (.bin (.bin (.go) (.un (.un (.bin (.go) (.bin (.un (.bin (.go) (.bin (.go) (.bin (.go) (.un (.bin (.go) (.cut (.bin (.go) (.bin (.go) (.cut (.bin (.go) (.bin (.go) (.cut (.bin (.go) (.bin (.go) (.cut (.go))))))))))))))))) (.go)))))) (.bin (.bin (.go) (.cut (.go))) (.go)))))))
theorem pok13 : plansOk prog pl13 (codeOf f13) = true := by kernel_rfl
theorem e13 {a0 : Value} : W prog J 129 h.length 13 (codeOf f13) (RG.mk (regs [a0]) []) h (RetQ prog [.cell 2 27,.tmp 3,.tmp 4] h.length K) =
(aAlloc [(vint 0),(vint 0),(vint 0),(Value.slice none 0 0),(vint 0),(Value.slice none 0 0)] h fun v1 h2 =>
aLenStr a0 fun v3 =>
aBin prog .gtr 3 v3 (vint 300) fun v4 =>
cnd v4
(aFill [(vint 0),(vint 0),(vint 0),(Value.slice none 0 0),(vint 0),(Value.slice none 0 0)] [] fun c5 =>
aStore 6 v1 (Value.agg ⟨c5⟩) h2 fun h6 =>
RetQ prog [.cell 2 27,.tmp 3,.tmp 4] h.length K .ret (RG.p (RG.p (RG.p (RG.p (RG.p (RG.p (RG.p (RG.p (RG.p (RG.mk (regs [a0]) []) 2 v1) 3 (vint 0)) 4 (vint 0)) 15 a0) 16 v3) 17 v4) 18 (Value.agg ⟨c5⟩)) 3 (vint 0)) 4 (vint 10)) h6)
(Good prog J 36 [a0,(Value.int .u8 10)] h2 fun v7 h8 =>
aAlloc [(vint 0),(vint 0),(vint 0),(Value.slice none 0 0),(vint 0),(Value.slice none 0 0)] h8 fun v9 h10 =>
Sem J 129 h.length 13 (subC yp5 (codeOf f13)) (RG.p (RG.p (RG.p (RG.p (RG.p (RG.p (RG.p (RG.p (RG.p (RG.p (RG.p (RG.p (RG.mk (regs [a0]) []) 2 v1) 3 (vint 0)) 4 (vint 0)) 15 a0) 16 v3) 17 v4) 19 a0) 20 v7) 5 v7) 6 v9) 7 (Value.bool false)) 8 (vint 0)) h10 (contX pl13 prog J 129 h.length 13 ct13 yp5 (codeOf f13) [] (RetQ prog [.cell 2 27,.tmp 3,.tmp 4] h.length K)))) := top_eq pok13 ct13 (by kernel_rfl)
theorem g13 (hJ : Closed prog main J) {a0 : Value} (hs : heapOk h → W prog J 129 h.length 13 (codeOf f13) (RG.mk (regs [a0]) []) h (RetQ prog [.cell 2 27,.tmp 3,.tmp 4] h.length K)) : Good prog J 13 [a0] h K :=
 good_of_W hJ mixed at13 body13 (by kernel_rfl) (Nat.le_of_ble_eq_true rfl) hs
theorem s13_1 {f : RG} {nx0 : RG → List AObj → Prop} : W prog J 129 n0 13 (subC yp13 (codeOf f13)) f h (thenK nx0 (contX pl13 prog J 129 n0 13 ct13 yp5 (codeOf f13) [] (RetQ prog [.cell 2 27,.tmp 3,.tmp 4] n0 K))) =
(aLenS (f.r 5) fun v1 =>
aBin prog .sub 3 v1 (vint 1) fun v2 =>
aBin prog .lss 3 (f.r 8) v2 fun v3 =>
cnd v3
(aIdx 1 (f.r 5) (f.r 8) fun v4 =>
aLoad false 1 v4 h fun v5 =>
Good prog J 36 [v5,(Value.int .u8 32)] h fun v6 h7 =>
aIdx 1 (f.r 5) (f.r 8) fun v8 =>
aLoad false 1 v8 h7 fun v9 =>
Good prog J 37 [v9,(Value.string { data := #[99,104,97,110,103,101,61] })] h7 fun v10 h11 =>
aExt v10 0 fun v12 =>
aExt v10 1 fun v13 =>
aAlloc [(vint 0),(vint 0)] h11 fun v14 h15 =>
aStore 2 v14 v12 h15 fun h16 =>
Good prog J 38 [v6] h16 fun v17 h18 =>
aExt v17 0 fun v19 =>
aExt v17 1 fun v20 =>
aAlloc [(vint 0),(vint 0),(vint 0),(vint 0)] h18 fun v21 h22 =>
aStore 4 v21 v19 h22 fun h23 =>
aBin prog .eql 3 (f.r 8) (vint 0) fun v24 =>
cnd v24
(Good prog J 39 [(f.r 6),v6] h23 fun v25 h26 =>
Hold (W prog J 129 n0 13 (subC yp20 (codeOf f13)) (RG.p (RG.p (RG.p (RG.p (RG.p (RG.p (RG.p (RG.p (RG.p (RG.p (RG.p (RG.p (RG.p (RG.p (RG.p (RG.p (RG.p (RG.p (RG.p (RG.p (RG.p (RG.p (RG.p (RG.p (RG.p (RG.p (RG.p (RG.p (RG.p (RG.p (RG.p (RG.p (RG.p (RG.p (RG.p (RG.p f 21 (f.r 8)) 22 (f.r 5)) 23 v1) 24 v2) 25 v3) 28 (f.r 5)) 29 (f.r 8)) 30 v4) 31 v5) 32 v6) 9 v6) 34 (f.r 5)) 35 (f.r 8)) 36 v8) 37 v9) 38 v10) 33 v10) 39 v12) 40 v13) 10 v14) 11 v13) 42 v6) 43 v17) 41 v17) 44 v19) 45 v20) 12 v21) 13 v20) 50 (f.r 8)) 51 v24) 52 v24) 52 (Value.bool true)) 53 v6) 54 v25) 55 v25) 49 v25) h26 (contX pl13 prog J 129 n0 13 ct13 yp20 (codeOf f13) [nx0] (RetQ prog [.cell 2 27,.tmp 3,.tmp 4] n0 K))))
(Hold (W prog J 129 n0 13 (subC yp20 (codeOf f13)) (RG.p (RG.p (RG.p (RG.p (RG.p (RG.p (RG.p (RG.p (RG.p (RG.p (RG.p (RG.p (RG.p (RG.p (RG.p (RG.p (RG.p (RG.p (RG.p (RG.p (RG.p (RG.p (RG.p (RG.p (RG.p (RG.p (RG.p (RG.p (RG.p (RG.p (RG.p (RG.p (RG.p (RG.p (RG.p (RG.p f 21 (f.r 8)) 22 (f.r 5)) 23 v1) 24 v2) 25 v3) 28 (f.r 5)) 29 (f.r 8)) 30 v4) 31 v5) 32 v6) 9 v6) 34 (f.r 5)) 35 (f.r 8)) 36 v8) 37 v9) 38 v10) 33 v10) 39 v12) 40 v13) 10 v14) 11 v13) 42 v6) 43 v17) 41 v17) 44 v19) 45 v20) 12 v21) 13 v20) 50 (f.r 8)) 51 v24) 52 v24) 52 (Value.bool false)) 53 undef) 54 undef) 55 (Value.bool false)) 49 (Value.bool false)) h23 (contX pl13 prog J 129 n0 13 ct13 yp20 (codeOf f13) [nx0] (RetQ prog [.cell 2 27,.tmp 3,.tmp 4] n0 K)))))
(aUn .not (f.r 7) fun v27 =>
cnd v27
(Hold (W prog J 129 n0 13 (subC yp32 (codeOf f13)) (RG.p (RG.p (RG.p (RG.p (RG.p (RG.p (RG.p (RG.p (RG.p (RG.p (RG.p (RG.p (RG.p (RG.p (RG.p (RG.p (RG.p f 21 (f.r 8)) 22 (f.r 5)) 23 v1) 24 v2) 25 v3) 108 (f.r 7)) 109 v27) 110 v27) 110 (Value.bool true)) 111 undef) 112 undef) 113 undef) 114 undef) 115 undef) 116 undef) 117 undef) 118 (Value.bool true)) h (contX pl13 prog J 129 n0 13 ct13 yp32 (codeOf f13) [] (RetQ prog [.cell 2 27,.tmp 3,.tmp 4] n0 K))))
(aLenS (f.r 5) fun v28 =>
aBin prog .sub 3 v28 (vint 1) fun v29 =>
aIdx 1 (f.r 5) v29 fun v30 =>
aLoad false 1 v30 h fun v31 =>
aBin prog .neq 9 v31 (Value.string { data := #[] }) fun v32 =>
Hold (W prog J 129 n0 13 (subC yp32 (codeOf f13)) (RG.p (RG.p (RG.p (RG.p (RG.p (RG.p (RG.p (RG.p (RG.p (RG.p (RG.p (RG.p (RG.p (RG.p (RG.p (RG.p (RG.p f 21 (f.r 8)) 22 (f.r 5)) 23 v1) 24 v2) 25 v3) 108 (f.r 7)) 109 v27) 110 v27) 110 (Value.bool false)) 111 (f.r 5)) 112 (f.r 5)) 113 v28) 114 v29) 115 v30) 116 v31) 117 v32) 118 v32) h (contX pl13 prog J 129 n0 13 ct13 yp32 (codeOf f13) [] (RetQ prog [.cell 2 27,.tmp 3,.tmp 4] n0 K)))))) := sub_eq pok13 ct13 (by kernel_rfl)
theorem l13_1 (hJ : Closed prog main J) {S : Type} (μ : S → Nat) (I : S → RG → List AObj → Prop) (hI : ∀ s f h,I s f h → heapOk h → n0 ≤ h.length → W prog J 129 n0 13 (subC yp13 (codeOf f13)) f h (thenK (Nx n0 μ I s) (contX pl13 prog J 129 n0 13 ct13 yp5 (codeOf f13) [] (RetQ prog [.cell 2 27,.tmp 3,.tmp 4] n0 K))))
 {s : S} {f : RG} (hi : Gets n0 I s f h) : Sem J 129 n0 13 (subC yp5 (codeOf f13)) f h (contX pl13 prog J 129 n0 13 ct13 yp5 (codeOf f13) [] (RetQ prog [.cell 2 27,.tmp 3,.tmp 4] n0 K)) :=
 loop_rule hJ mixed (b := subC yp13 (codeOf f13)) (by kernel_rfl) μ I hI hi
theorem s13_2 {f : RG} {nx0 : RG → List AObj → Prop} : W prog J 129 n0 13 (subC yp20 (codeOf f13)) f h (contX pl13 prog J 129 n0 13 ct13 yp20 (codeOf f13) [nx0] (RetQ prog [.cell 2 27,.tmp 3,.tmp 4] n0 K)) =
(cnd (f.r 49)
(aBin prog .add 3 (f.r 8) (vint 1) fun v1 =>
nx0 (RG.p (RG.p (RG.p f 26 (f.r 8)) 27 v1) 8 v1) h)
(aBin prog .gtr 3 (f.r 8) (vint 0) fun v2 =>
cnd v2
(aUn .not (f.r 7) fun v3 =>
cnd v3
(cnd (f.r 11)
(aOff (f.r 6) 5 fun v4 =>
aLoad false 1 v4 h fun v5 =>
aLenS v5 fun v6 =>
aBin prog .eql 3 v6 (vint 0) fun v7 =>
Hold (W prog J 129 n0 13 (subC yp15 (codeOf f13)) (RG.p (RG.p (RG.p (RG.p (RG.p (RG.p (RG.p (RG.p (RG.p (RG.p (RG.p (RG.p (RG.p (RG.p (RG.p (RG.p (RG.p (RG.p (RG.p f 57 (f.r 8)) 58 v2) 59 v2) 59 (Value.bool true)) 60 (f.r 7)) 61 v3) 62 v3) 63 v3) 63 (Value.bool true)) 64 (f.r 11)) 65 (f.r 11)) 66 (f.r 11)) 66 (Value.bool true)) 67 v4) 68 v5) 69 v6) 70 v7) 71 v7) 56 v7) h (contX pl13 prog J 129 n0 13 ct13 yp15 (codeOf f13) [nx0] (RetQ prog [.cell 2 27,.tmp 3,.tmp 4] n0 K))))
(Hold (W prog J 129 n0 13 (subC yp15 (codeOf f13)) (RG.p (RG.p (RG.p (RG.p (RG.p (RG.p (RG.p (RG.p (RG.p (RG.p (RG.p (RG.p (RG.p (RG.p (RG.p (RG.p (RG.p (RG.p (RG.p f 57 (f.r 8)) 58 v2) 59 v2) 59 (Value.bool true)) 60 (f.r 7)) 61 v3) 62 v3) 63 v3) 63 (Value.bool true)) 64 (f.r 11)) 65 (f.r 11)) 66 (f.r 11)) 66 (Value.bool false)) 67 undef) 68 undef) 69 undef) 70 undef) 71 (Value.bool false)) 56 (Value.bool false)) h (contX pl13 prog J 129 n0 13 ct13 yp15 (codeOf f13) [nx0] (RetQ prog [.cell 2 27,.tmp 3,.tmp 4] n0 K)))))
(Hold (W prog J 129 n0 13 (subC yp15 (codeOf f13)) (RG.p (RG.p (RG.p (RG.p (RG.p (RG.p (RG.p (RG.p (RG.p (RG.p (RG.p (RG.p (RG.p (RG.p (RG.p (RG.p (RG.p (RG.p (RG.p f 57 (f.r 8)) 58 v2) 59 v2) 59 (Value.bool true)) 60 (f.r 7)) 61 v3) 62 v3) 63 v3) 63 (Value.bool false)) 64 undef) 65 (Value.bool false)) 66 (Value.bool false)) 66 (Value.bool false)) 67 undef) 68 undef) 69 undef) 70 undef) 71 (Value.bool false)) 56 (Value.bool false)) h (contX pl13 prog J 129 n0 13 ct13 yp15 (codeOf f13) [nx0] (RetQ prog [.cell 2 27,.tmp 3,.tmp 4] n0 K)))))
(Hold (W prog J 129 n0 13 (subC yp15 (codeOf f13)) (RG.p (RG.p (RG.p (RG.p (RG.p (RG.p (RG.p (RG.p (RG.p (RG.p (RG.p (RG.p (RG.p (RG.p (RG.p (RG.p (RG.p (RG.p (RG.p f 57 (f.r 8)) 58 v2) 59 v2) 59 (Value.bool false)) 60 undef) 61 undef) 62 (Value.bool false)) 63 (Value.bool false)) 63 (Value.bool false)) 64 undef) 65 (Value.bool false)) 66 (Value.bool false)) 66 (Value.bool false)) 67 undef) 68 undef) 69 undef) 70 undef) 71 (Value.bool false)) 56 (Value.bool false)) h (contX pl13 prog J 129 n0 13 ct13 yp15 (codeOf f13) [nx0] (RetQ prog [.cell 2 27,.tmp 3,.tmp 4] n0 K)))))) := sub_eq pok13 ct13 (by kernel_rfl)
theorem s13_3 {f : RG} : W prog J 129 n0 13 (subC yp32 (codeOf f13)) f h (contX pl13 prog J 129 n0 13 ct13 yp32 (codeOf f13) [] (RetQ prog [.cell 2 27,.tmp 3,.tmp 4] n0 K)) =
(cnd (f.r 118)
(aFill [(vint 0),(vint 0),(vint 0),(Value.slice none 0 0),(vint 0),(Value.slice none 0 0)] [] fun c1 =>
aLenS (f.r 5) fun v2 =>
aStore 6 (f.r 2) (Value.agg ⟨c1⟩) h fun h3 =>
RetQ prog [.cell 2 27,.tmp 3,.tmp 4] n0 K .ret (RG.p (RG.p (RG.p (RG.p (RG.p f 119 (Value.agg ⟨c1⟩)) 120 (f.r 5)) 121 v2) 3 v2) 4 (vint 2)) h3)
(aLoad true 6 (f.r 6) h fun v4 =>
Good prog J 30 [v4] h fun v5 h6 =>
aBin prog .neq 36 v5 (vint 0) fun v7 =>
cnd v7
(aFill [(vint 0),(vint 0),(vint 0),(Value.slice none 0 0),(vint 0),(Value.slice none 0 0)] [] fun c8 =>
aStore 6 (f.r 2) (Value.agg ⟨c8⟩) h6 fun h9 =>
RetQ prog [.cell 2 27,.tmp 3,.tmp 4] n0 K .ret (RG.p (RG.p (RG.p (RG.p (RG.p (RG.p (RG.p (RG.p (RG.p f 122 v4) 123 v5) 14 v5) 124 v5) 125 v7) 126 (Value.agg ⟨c8⟩)) 127 v5) 3 (vint 0)) 4 v5) h9)
(aLoad true 6 (f.r 6) h6 fun v10 =>
aStore 6 (f.r 2) v10 h6 fun h11 =>
RetQ prog [.cell 2 27,.tmp 3,.tmp 4] n0 K .ret (RG.p (RG.p (RG.p (RG.p (RG.p (RG.p (RG.p (RG.p f 122 v4) 123 v5) 14 v5) 124 v5) 125 v7) 128 v10) 3 (vint 0)) 4 (vint 0)) h11))) := sub_eq pok13 ct13 (by kernel_rfl)
theorem s13_4 {f : RG} {nx0 : RG → List AObj → Prop} : W prog J 129 n0 13 (subC yp15 (codeOf f13)) f h (contX pl13 prog J 129 n0 13 ct13 yp15 (codeOf f13) [nx0] (RetQ prog [.cell 2 27,.tmp 3,.tmp 4] n0 K)) =
(cnd (f.r 56)
(aOff (f.r 6) 3 fun v1 =>
aLoad false 1 v1 h fun v2 =>
aLoad true 2 (f.r 10) h fun v3 =>
(((1 * 2 : Nat) ≤ 16777216 ∧ (1 : Nat) ≤ 16777216 ∧ List.length [(vint 0),(vint 0)] = 2) ∧ aFill (zrep [(vint 0),(vint 0)] 1) [(0,2,v3)] fun c4 =>
aNewS 1 c4 h fun v5 h6 =>
((List.length [(vint 0),(vint 0)] = 2 ∧ 0 < (2 : Nat) ∧ 0 < (16 : Nat) ∧ (16 : Nat) ≤ 1024) ∧ aApp 2 v2 v5 h6 fun v7 h8 =>
aOff (f.r 6) 3 fun v9 =>
aStore 1 v9 v7 h8 fun h10 =>
aBin prog .add 3 (f.r 8) (vint 1) fun v11 =>
nx0 (RG.p (RG.p (RG.p (RG.p (RG.p (RG.p (RG.p (RG.p (RG.p f 72 v1) 73 v2) 74 v3) 75 v5) 76 v7) 77 v9) 26 (f.r 8)) 27 v11) 8 v11) h10)))
(aBin prog .gtr 3 (f.r 8) (vint 0) fun v12 =>
cnd v12
(aUn .not (f.r 7) fun v13 =>
cnd v13
(Hold (W prog J 129 n0 13 (subC yp21 (codeOf f13)) (RG.p (RG.p (RG.p (RG.p (RG.p (RG.p (RG.p (RG.p (RG.p (RG.p (RG.p (RG.p f 79 (f.r 8)) 80 v12) 81 v12) 81 (Value.bool true)) 82 (f.r 7)) 83 v13) 84 v13) 85 v13) 85 (Value.bool true)) 86 (f.r 13)) 87 (f.r 13)) 78 (f.r 13)) h (contX pl13 prog J 129 n0 13 ct13 yp21 (codeOf f13) [nx0] (RetQ prog [.cell 2 27,.tmp 3,.tmp 4] n0 K))))
(Hold (W prog J 129 n0 13 (subC yp21 (codeOf f13)) (RG.p (RG.p (RG.p (RG.p (RG.p (RG.p (RG.p (RG.p (RG.p (RG.p (RG.p (RG.p f 79 (f.r 8)) 80 v12) 81 v12) 81 (Value.bool true)) 82 (f.r 7)) 83 v13) 84 v13) 85 v13) 85 (Value.bool false)) 86 undef) 87 (Value.bool false)) 78 (Value.bool false)) h (contX pl13 prog J 129 n0 13 ct13 yp21 (codeOf f13) [nx0] (RetQ prog [.cell 2 27,.tmp 3,.tmp 4] n0 K)))))
(Hold (W prog J 129 n0 13 (subC yp21 (codeOf f13)) (RG.p (RG.p (RG.p (RG.p (RG.p (RG.p (RG.p (RG.p (RG.p (RG.p (RG.p (RG.p f 79 (f.r 8)) 80 v12) 81 v12) 81 (Value.bool false)) 82 undef) 83 undef) 84 (Value.bool false)) 85 (Value.bool false)) 85 (Value.bool false)) 86 undef) 87 (Value.bool false)) 78 (Value.bool false)) h (contX pl13 prog J 129 n0 13 ct13 yp21 (codeOf f13) [nx0] (RetQ prog [.cell 2 27,.tmp 3,.tmp 4] n0 K)))))) := sub_eq pok13 ct13 (by kernel_rfl)
theorem s13_5 {f : RG} {nx0 : RG → List AObj → Prop} : W prog J 129 n0 13 (subC yp21 (codeOf f13)) f h (contX pl13 prog J 129 n0 13 ct13 yp21 (codeOf f13) [nx0] (RetQ prog [.cell 2 27,.tmp 3,.tmp 4] n0 K)) =
(cnd (f.r 78)
(aOff (f.r 6) 5 fun v1 =>
aLoad false 1 v1 h fun v2 =>
aLoad true 4 (f.r 12) h fun v3 =>
(((1 * 4 : Nat) ≤ 16777216 ∧ (1 : Nat) ≤ 16777216 ∧ List.length [(vint 0),(vint 0),(vint 0),(vint 0)] = 4) ∧ aFill (zrep [(vint 0),(vint 0),(vint 0),(vint 0)] 1) [(0,4,v3)] fun c4 =>
aNewS 1 c4 h fun v5 h6 =>
((List.length [(vint 0),(vint 0),(vint 0),(vint 0)] = 4 ∧ 0 < (4 : Nat) ∧ 0 < (32 : Nat) ∧ (32 : Nat) ≤ 1024) ∧ aApp 4 v2 v5 h6 fun v7 h8 =>
aOff (f.r 6) 5 fun v9 =>
aStore 1 v9 v7 h8 fun h10 =>
aBin prog .add 3 (f.r 8) (vint 1) fun v11 =>
nx0 (RG.p (RG.p (RG.p (RG.p (RG.p (RG.p (RG.p (RG.p (RG.p f 88 v1) 89 v2) 90 v3) 91 v5) 92 v7) 93 v9) 26 (f.r 8)) 27 v11) 8 v11) h10)))
(aBin prog .gtr 3 (f.r 8) (vint 0) fun v12 =>
cnd v12
(aUn .not (f.r 7) fun v13 =>
cnd v13
(aIdx 1 (f.r 5) (f.r 8) fun v14 =>
aLoad false 1 v14 h fun v15 =>
aBin prog .eql 9 v15 (Value.string { data := #[116,97,108,108,105,101,100] }) fun v16 =>
Hold (W prog J 129 n0 13 (subC yp22 (codeOf f13)) (RG.p (RG.p (RG.p (RG.p (RG.p (RG.p (RG.p (RG.p (RG.p (RG.p (RG.p (RG.p (RG.p (RG.p (RG.p (RG.p f 95 (f.r 8)) 96 v12) 97 v12) 97 (Value.bool true)) 98 (f.r 7)) 99 v13) 100 v13) 101 v13) 101 (Value.bool true)) 102 (f.r 5)) 103 (f.r 8)) 104 v14) 105 v15) 106 v16) 107 v16) 94 v16) h (contX pl13 prog J 129 n0 13 ct13 yp22 (codeOf f13) [nx0] (RetQ prog [.cell 2 27,.tmp 3,.tmp 4] n0 K))))
(Hold (W prog J 129 n0 13 (subC yp22 (codeOf f13)) (RG.p (RG.p (RG.p (RG.p (RG.p (RG.p (RG.p (RG.p (RG.p (RG.p (RG.p (RG.p (RG.p (RG.p (RG.p (RG.p f 95 (f.r 8)) 96 v12) 97 v12) 97 (Value.bool true)) 98 (f.r 7)) 99 v13) 100 v13) 101 v13) 101 (Value.bool false)) 102 undef) 103 undef) 104 undef) 105 undef) 106 undef) 107 (Value.bool false)) 94 (Value.bool false)) h (contX pl13 prog J 129 n0 13 ct13 yp22 (codeOf f13) [nx0] (RetQ prog [.cell 2 27,.tmp 3,.tmp 4] n0 K)))))
(Hold (W prog J 129 n0 13 (subC yp22 (codeOf f13)) (RG.p (RG.p (RG.p (RG.p (RG.p (RG.p (RG.p (RG.p (RG.p (RG.p (RG.p (RG.p (RG.p (RG.p (RG.p (RG.p f 95 (f.r 8)) 96 v12) 97 v12) 97 (Value.bool false)) 98 undef) 99 undef) 100 (Value.bool false)) 101 (Value.bool false)) 101 (Value.bool false)) 102 undef) 103 undef) 104 undef) 105 undef) 106 undef) 107 (Value.bool false)) 94 (Value.bool false)) h (contX pl13 prog J 129 n0 13 ct13 yp22 (codeOf f13) [nx0] (RetQ prog [.cell 2 27,.tmp 3,.tmp 4] n0 K)))))) := sub_eq pok13 ct13 (by kernel_rfl)
theorem s13_6 {f : RG} {nx0 : RG → List AObj → Prop} : W prog J 129 n0 13 (subC yp22 (codeOf f13)) f h (contX pl13 prog J 129 n0 13 ct13 yp22 (codeOf f13) [nx0] (RetQ prog [.cell 2 27,.tmp 3,.tmp 4] n0 K)) =
(cnd (f.r 94)
(aBin prog .add 3 (f.r 8) (vint 1) fun v1 =>
nx0 (RG.p (RG.p (RG.p (RG.p f 7 (Value.bool true)) 26 (f.r 8)) 27 v1) 8 v1) h)
(aFill [(vint 0),(vint 0),(vint 0),(Value.slice none 0 0),(vint 0),(Value.slice none 0 0)] [] fun c2 =>
aBin prog .add 3 (f.r 8) (vint 1) fun v3 =>
aStore 6 (f.r 2) (Value.agg ⟨c2⟩) h fun h4 =>
RetQ prog [.cell 2 27,.tmp 3,.tmp 4] n0 K .ret (RG.p (RG.p (RG.p (RG.p (RG.p f 46 (Value.agg ⟨c2⟩)) 47 (f.r 8)) 48 v3) 3 v3) 4 (vint 2)) h4)) := sub_eq pok13 ct13 (by kernel_rfl)
end
end Go.Proofs.YtlladcglhjlbpaaGreatDoor
namespace Go.Proofs.YtlladcglhjlbpaaGreatDoor
open Go.Conc Go.Proofs.Tryz
set_option maxRecDepth 100000
theorem rng_one {s : List UInt8} {r : Rng} (h : rngB wChange s = some r) : partsB 32 s = [s] ∧ s ≠ wTallied := by
 obtain ⟨rfl,hb⟩ := rng_back h
 exact ⟨partsB_one _ fun b hb' => (now_span now_words.2.2.2.1 hb b hb').2,span_ne r⟩
theorem line_chg {i : Nat} {s : List UInt8} {t : Tal} {r : Rng} (hi : i ≠ 0) (h : rngB wChange s = some r) (hc : t.counts = []) : lineT i s (t,false) = some ({ t with changes := t.changes ++ [r] },false) := by
 obtain ⟨h1,h2⟩ := rng_one h
 exact line_take hi h2 (by rw [takeT_one h1 hc,h]; rfl)
theorem line_cnt {i : Nat} {s : List UInt8} {t : Tal} {c : Cnt} (hi : i ≠ 0) (h : countT (partsB 32 s) = some c) : lineT i s (t,false) = some ({ t with counts := t.counts ++ [c] },false) := by
 have h5 : (partsB 32 s).length = 5 := by
  by_cases h5 : (partsB 32 s).length = 5
  ·exact h5
  ·rw [countT_len h5] at h
   cases h
 refine line_take hi (fun e => ?_) (by rw [takeT_many (by omega),h]; rfl)
 subst e
 have : (partsB 32 wTallied).length = 1 := by decide
 omega
theorem line_end {i : Nat} {t : Tal} (hi : i ≠ 0) : lineT i wTallied (t,false) = some (t,true) := by
 unfold lineT
 rw [if_neg (by simp),if_neg hi,if_pos rfl]
theorem line_bad {i : Nat} {s : List UInt8} {t : Tal} (hi : i ≠ 0) (h1 : rngB wChange s = none ∨ t.counts ≠ []) (h2 : countT (partsB 32 s) = none) (h3 : s ≠ wTallied) : lineT i s (t,false) = none := by
 have ht : takeT t s = none := by
  by_cases hl : (partsB 32 s).length = 1
  ·obtain ⟨a,ha⟩ := List.length_eq_one_iff.1 hl
   by_cases hc : t.counts = []
   ·rw [takeT_one ha hc]
    have hs := join_parts s ha
    simp only [joinR,List.flatMap_nil,List.append_nil] at hs
    rw [← hs,h1.resolve_right (fun h => h hc)]
    rfl
   ·exact takeT_no ha hc
  ·rw [takeT_many hl,h2]
   rfl
 unfold lineT
 rw [if_neg (by simp),if_neg hi,if_neg h3,ht]
 rfl
theorem line_over {i : Nat} {s : List UInt8} {t : Tal} : lineT i s (t,true) = none := if_pos rfl
theorem line_head {s : List UInt8} : lineT 0 s (tal0,false) = (headT s).map fun t => (t,false) := by
 unfold lineT
 rw [if_neg (by simp),if_pos rfl]
def RdI (s : List UInt8) (H2 : List AObj) (b1 pt : Nat) (lv : Value) : Nat × Tal × Bool → RG → List AObj → Prop := fun x F G =>
 F.ds = [] ∧ F.r 2 = ptr b1 0 ∧ F.r 5 = lv ∧ F.r 6 = ptr pt 0 ∧ F.r 7 = .bool x.2.2 ∧ F.r 8 = vint (x.1 : Nat) ∧ x.1 + 1 ≤ (partsB 10 s).length ∧ SameX [] H2 G ∧
 (∃ cv nv o1 o2,TalY (fun i => i < H2.length) G pt x.2.1 cv nv o1 o2 ∧ (x.1 = 0 → x.2.1 = tal0 ∧ x.2.2 = false ∧ cv = .slice none 0 0 ∧ nv = .slice none 0 0)) ∧ x.2.1.counts.length + x.2.1.changes.length ≤ x.1 ∧
 linesT 0 (partsB 10 s).dropLast (tal0,false) = linesT x.1 ((partsB 10 s).dropLast.drop x.1) x.2
abbrev RdU (s : List UInt8) : Nat × Tal × Bool → Nat := fun x => (partsB 10 s).length - x.1
structure RdM (s : List UInt8) (H2 : List AObj) (b1 pt p10 p12 : Nat) (lv : Value) (i : Nat) (u : List UInt8) (t : Tal) (en : Bool) (cv nv : Value) (o1 o2 : Option Nat) (r : Rng) (c : Cnt) (F : RG) (G : List AObj) : Prop where
 ds : F.ds = []
 r2 : F.r 2 = ptr b1 0
 r5 : F.r 5 = lv
 r6 : F.r 6 = ptr pt 0
 r7 : F.r 7 = .bool en
 r8 : F.r 8 = vint (i : Nat)
 r10 : F.r 10 = ptr p10 0
 r12 : F.r 12 = ptr p12 0
 S : SameX [] H2 G
 T : i ≠ 0 → TalY (fun i => i < H2.length) G pt t cv nv o1 o2
 c10 : G[p10]? = some (.cells r.cells true 0)
 c12 : G[p12]? = some (.cells c.cells true 0)
 hb : H2[b1]? = some (.cells talZ true 0)
 sl : Sli H2 lv 1 (partsB 10 s).length ((partsB 10 s).map strV)
 hi : i + 1 < (partsB 10 s).length
 hu : (partsB 10 s).dropLast[i]? = some u
 cnt : t.counts.length + t.changes.length ≤ i
 len : s.length ≤ 300
 lin : linesT 0 (partsB 10 s).dropLast (tal0,false) = linesT i ((partsB 10 s).dropLast.drop i) (t,en)
theorem parts_le (c : UInt8) (s : List UInt8) : (partsB c s).length ≤ s.length + 1 := by
 rw [partsB_count]
 have : s.count c ≤ s.length := List.count_le_length
 omega
section
variable {main : Bool} {J : JT} {H0 H2 G : List AObj} {K : Value → List AObj → Prop} {F : RG} {n0 : Nat} {s u : List UInt8} {b1 pt p10 p12 i : Nat} {lv cv nv : Value} {t : Tal} {en : Bool} {o1 o2 : Option Nat} {r : Rng} {c : Cnt}
theorem readE_of (hl : s.length ≤ 300) : readE s = match readT s with
 | .inl i => (((i : Nat) : Int),(2 : Int))
 | .inr t => (0,talErr t) := if_neg (by omega)
theorem retR {F : RG} {G : List AObj} {a e : Int} {t : Tal} {cv nv : Value} {b1 : Nat} (ds : F.ds = []) (r2 : F.r 2 = ptr b1 0) (r3 : F.r 3 = vint a) (r4 : F.r 4 = vint e) (cb : G[b1]? = some (.cells (talCells t cv nv) true 0)) (hkn : kn (talCells t cv nv) = true) (hk : K (.tuple ⟨[.agg ⟨talCells t cv nv⟩,vint a,vint e]⟩) G) : RetQ prog [.cell 2 27,.tmp 3,.tmp 4] n0 K .ret F G := by
 refine retQ_same ds (resW_cell (gg := true) (s := 6) (by kernel_rfl) ?_)
 rw [r2]
 refine load_part (c := talCells t cv nv) cb (by rw [cs_val]; omega) rfl hkn (resW_tmp (by rw [r3]; simp [unk]) (resW_tmp (by rw [r4]; simp [unk]) (resW_nil ?_)))
 rw [r3,r4]
 exact hk
theorem rdK_bad (hK : ∀ H' cv nv,SameX [b1] H2 H' → TalAt H' (.agg ⟨talCells (readTal s) cv nv⟩) (readTal s) cv nv → K (.tuple ⟨[.agg ⟨talCells (readTal s) cv nv⟩,vint (readE s).1,vint (readE s).2]⟩) H') (hl : s.length ≤ 300) {a : Nat} (hr : readT s = .inl a) {H' : List AObj} (S : SameX [b1] H2 H') : K (.tuple ⟨[.agg ⟨talZ⟩,vint (a : Nat),vint 2]⟩) H' := by
 have he := readE_of hl
 rw [hr] at he
 have he : readE s = (((a : Nat) : Int),(2 : Int)) := he
 have hrt : readTal s = tal0 := if_neg (by rw [he]; exact (by decide : ¬ (2 : Int) = 0))
 have := hK H' (.slice none 0 0) (.slice none 0 0) S (by rw [hrt]; exact talAt_zero)
 rw [he,hrt] at this
 exact this
theorem readT_bad (M : linesT 0 (partsB 10 s).dropLast (tal0,false) = .inl i) : readT s = .inl i := by
 unfold readT
 rw [M]
theorem rdr_6 (hK : ∀ H' cv nv,SameX [b1] H2 H' → TalAt H' (.agg ⟨talCells (readTal s) cv nv⟩) (readTal s) cv nv → K (.tuple ⟨[.agg ⟨talCells (readTal s) cv nv⟩,vint (readE s).1,vint (readE s).2]⟩) H') (M : RdM s H2 b1 pt p10 p12 lv i u t en cv nv o1 o2 r c F G) {q : Bool} (rq : F.r 94 = .bool q) (k1 : q = true → i ≠ 0 ∧ lineT i u (t,en) = some (t,true)) (k2 : q = false → lineT i u (t,en) = none) :
  W prog J 129 n0 13 (subC yp22 (codeOf f13)) F G (contX pl13 prog J 129 n0 13 ct13 yp22 (codeOf f13) [Nx n0 (RdU s) (RdI s H2 b1 pt lv) (i,t,en)] (RetQ prog [.cell 2 27,.tmp 3,.tmp 4] n0 K)) := by
 rw [s13_6]
 have hpl := parts_le 10 s
 have hlen := M.len
 have hi := M.hi
 simp only [M.r2,M.r8,rq]
 cases q with
 | true =>
  refine cnd_true.2 (addI (by omega) ⟨(i + 1,t,true),by show (partsB 10 s).length - (i + 1) < (partsB 10 s).length - i; omega,.inl ⟨M.ds,M.r2,M.r5,M.r6,rfl,rfl,M.hi,M.S,⟨cv,nv,o1,o2,M.T (k1 rfl).1,fun h => absurd h (Nat.succ_ne_zero i)⟩,Nat.le_succ_of_le M.cnt,?_⟩⟩)
  rw [M.lin]
  exact linesT_some M.hu (k1 rfl).2
 | false =>
  refine cnd_false.2 (fillI (addI (by omega) (qStA (c := talZ) (M.S.get M.hb (by simp)) rfl rfl rfl fun H3 S3 c3 l3 => ?_)))
  have hr : readT s = .inl (i + 1) := readT_bad (by rw [M.lin]; exact linesT_none M.hu (k2 rfl))
  exact retR (t := tal0) (cv := .slice none 0 0) (nv := .slice none 0 0) (a := ((i : Nat) : Int) + 1) (e := 2) M.ds M.r2 rfl rfl c3 rfl (rdK_bad hK M.len hr (M.S.weak0.trans S3))
theorem rdr_5 (hK : ∀ H' cv nv,SameX [b1] H2 H' → TalAt H' (.agg ⟨talCells (readTal s) cv nv⟩) (readTal s) cv nv → K (.tuple ⟨[.agg ⟨talCells (readTal s) cv nv⟩,vint (readE s).1,vint (readE s).2]⟩) H') (M : RdM s H2 b1 pt p10 p12 lv i u t en cv nv o1 o2 r c F G) {q : Bool} (rq : F.r 78 = .bool q)
  (k1 : q = true → i ≠ 0 ∧ lineT i u (t,en) = some ({ t with counts := t.counts ++ [c] },en)) (k2 : q = false → (i = 0 ∨ en = true → lineT i u (t,en) = none) ∧ (i ≠ 0 → en = false → u ≠ wTallied → lineT i u (t,en) = none)) :
  W prog J 129 n0 13 (subC yp21 (codeOf f13)) F G (contX pl13 prog J 129 n0 13 ct13 yp21 (codeOf f13) [Nx n0 (RdU s) (RdI s H2 b1 pt lv) (i,t,en)] (RetQ prog [.cell 2 27,.tmp 3,.tmp 4] n0 K)) := by
 rw [s13_5]
 have hpl := parts_le 10 s
 have hlen := M.len
 have hi := M.hi
 have hcnt := M.cnt
 simp only [M.r5,M.r6,M.r7,M.r8,M.r12,rq]
 cases q with
 | true =>
  have T := M.T (k1 rfl).1
  refine cnd_true.2 (offI (ldI (v := nv) T.cell rfl (ownX_val T.on).2.2 (load_part (c := c.cells) M.c12 (by simp [Cnt.cells]) rfl rfl ⟨by decide,fill_four (l := c.cells) rfl rfl rfl (by decide) (fillI (qNew fun H4 p4 e4 S4 c4 l4 => ⟨by decide,?_⟩))⟩)))
  have c4 : H4[p4]? = some (.cells c.cells true 0) := c4
  have T4 := T.keep S4
  refine ownX_more T4.on (by omega) (by omega) (ownX_sli (ownX_new (s := 4) (n := 1) (l := c.cells) c4 rfl rfl)) fun nv' H7 p7 e7 O7 S7 => offI ?_
  have S07 : SameX [] H2 H7 := (M.S.trans S4).thru S7 fun x hx => by
   have := (T.b2 x (by simpa using hx)).1
   exact .inr (Nat.not_lt.1 this)
  have lpt := lt_of_get T.cell
  have c7 : H7[pt]? = some (.cells (talCells t cv nv) true 0) := by
   rw [S7.2 pt (Nat.lt_of_lt_of_le lpt S4.1) (fun hm => (T.b2 pt (by simpa using hm)).2 rfl),S4.2 pt lpt (by simp)]
   exact T.cell
  refine qSt c7 (by rw [cs_val]; omega) (ownX_val O7).1 (ownX_val O7).2.1 fun H8 S8 c8 l8 => ?_
  have c8 : H8[pt]? = some (.cells (talCells { t with counts := t.counts ++ [c] } cv nv') true 0) := c8
  refine addI (by omega) ⟨(i + 1,{ t with counts := t.counts ++ [c] },en),by show (partsB 10 s).length - (i + 1) < (partsB 10 s).length - i; omega,.inl ⟨M.ds,M.r2,M.r5,M.r6,M.r7,rfl,M.hi,S07.thru S8 (fun x hx => by rw [List.mem_singleton.1 hx]; exact .inr (Nat.not_lt.1 T.low)),⟨cv,nv',o1,some p7,⟨T.low,c8,?_,?_,T.b1,fun i hi => ?_,fun i hi e => ?_⟩,fun h => absurd h (Nat.succ_ne_zero i)⟩,by simp; omega,?_⟩⟩
  ·refine ownX_keep (ownX_keep T4.oc S7 fun i hi hm => T.ne i hi (by simpa using hm)) S8 fun i hi hm => ?_
   exact (T.b1 i hi).2 (by simpa using hm)
  ·have e1 : (t.counts ++ [c]).flatMap Cnt.cells = t.counts.flatMap Cnt.cells ++ c.cells := by simp
   have e2 : (t.counts ++ [c]).length = t.counts.length + 1 := by simp
   show OwnX H8 4 ((t.counts ++ [c]).flatMap Cnt.cells) (t.counts ++ [c]).length nv' (some p7)
   rw [e1,e2]
   exact ownX_keep O7 S8 fun i hi hm => by
    cases hi
    have : p7 = pt := by simpa using hm
    have := S4.1
    omega
  ·cases hi
   have := S4.1
   have := M.S.1
   exact ⟨by omega,by omega⟩
  ·cases e
   have := ownX_lt T.oc _ hi
   have := S4.1
   omega
  ·rw [M.lin]
   exact linesT_some M.hu (k1 rfl).2
 | false =>
  obtain ⟨kb,kw⟩ := k2 rfl
  have M6 : ∀ {F' : RG},F'.ds = F.ds → (∀ x ∈ [2,5,6,7,8,10,12],F'.r x = F.r x) → RdM s H2 b1 pt p10 p12 lv i u t en cv nv o1 o2 r c F' G := fun hd hr =>
   ⟨hd.trans M.ds,(hr 2 (by simp)).trans M.r2,(hr 5 (by simp)).trans M.r5,(hr 6 (by simp)).trans M.r6,(hr 7 (by simp)).trans M.r7,(hr 8 (by simp)).trans M.r8,(hr 10 (by simp)).trans M.r10,(hr 12 (by simp)).trans M.r12,M.S,M.T,M.c10,M.c12,M.hb,M.sl,M.hi,M.hu,M.cnt,M.len,M.lin⟩
  have nine : ∀ {F' : RG},F'.ds = F.ds → (∀ x ∈ [2,5,6,7,8,10,12],F'.r x = F.r x) → F'.r 94 = .bool false → lineT i u (t,en) = none → _ := fun {F'} hd hr rq hl => rdr_6 (F := F') (G := G) (J := J) (n0 := n0) (K := K) hK (M6 hd hr) rq (fun h => by cases h) fun _ => hl
  refine cnd_false.2 (gtrI (cndI (fun h0 => notI ?_) fun h0 => hold.2 ?_))
  ·cases en with
   | true =>
    refine cnd_false.2 (hold.2 (nine rfl ?_ rfl (kb (.inr rfl))))
    intro x hx
    simp only [List.mem_cons,List.not_mem_nil,or_false] at hx
    rcases hx with rfl | rfl | rfl | rfl | rfl | rfl | rfl <;> rfl
   | false =>
    have hul : (partsB 10 s)[i]? = some u := by
     have := M.hu
     rw [List.getElem?_dropLast,if_pos (by omega)] at this
     exact this
    refine cnd_true.2 (idx_load (x := strV u) (M.S.sli M.sl (by simp)) ⟨by omega,by omega⟩ (by rw [Int.toNat_natCast,List.getElem?_map,hul]; rfl) fun _ => eqS (hold.2 ?_))
    refine rdr_6 hK (M6 rfl ?_) rfl (fun h => ?_) fun h => kw (by omega) rfl (of_decide_eq_false h)
    ·intro x hx
     simp only [List.mem_cons,List.not_mem_nil,or_false] at hx
     rcases hx with rfl | rfl | rfl | rfl | rfl | rfl | rfl <;> rfl
    ·have h : u = wTallied := of_decide_eq_true h
     rw [h]
     exact ⟨by omega,line_end (by omega)⟩
  ·refine nine rfl ?_ rfl (kb (.inl (by omega)))
   intro x hx
   simp only [List.mem_cons,List.not_mem_nil,or_false] at hx
   rcases hx with rfl | rfl | rfl | rfl | rfl | rfl | rfl <;> rfl
theorem RdM.to {F' : RG} (M : RdM s H2 b1 pt p10 p12 lv i u t en cv nv o1 o2 r c F G) (hd : F'.ds = F.ds) (h2 : F'.r 2 = F.r 2) (h5 : F'.r 5 = F.r 5) (h6 : F'.r 6 = F.r 6) (h7 : F'.r 7 = F.r 7) (h8 : F'.r 8 = F.r 8) (h10 : F'.r 10 = F.r 10) (h12 : F'.r 12 = F.r 12) : RdM s H2 b1 pt p10 p12 lv i u t en cv nv o1 o2 r c F' G :=
 ⟨hd.trans M.ds,h2.trans M.r2,h5.trans M.r5,h6.trans M.r6,h7.trans M.r7,h8.trans M.r8,h10.trans M.r10,h12.trans M.r12,M.S,M.T,M.c10,M.c12,M.hb,M.sl,M.hi,M.hu,M.cnt,M.len,M.lin⟩
theorem rdr_4 (hK : ∀ H' cv nv,SameX [b1] H2 H' → TalAt H' (.agg ⟨talCells (readTal s) cv nv⟩) (readTal s) cv nv → K (.tuple ⟨[.agg ⟨talCells (readTal s) cv nv⟩,vint (readE s).1,vint (readE s).2]⟩) H') (M : RdM s H2 b1 pt p10 p12 lv i u t en cv nv o1 o2 r c F G) {q q2 : Bool} (rq : F.r 56 = .bool q) (r13 : F.r 13 = .bool q2) (hq2 : countT (partsB 32 u) = bif q2 then some c else none)
  (k1 : q = true → i ≠ 0 ∧ lineT i u (t,en) = some ({ t with changes := t.changes ++ [r] },en)) (k2 : q = false → (i = 0 ∨ en = true → lineT i u (t,en) = none) ∧ (i ≠ 0 → en = false → rngB wChange u = none ∨ t.counts ≠ [])) :
  W prog J 129 n0 13 (subC yp15 (codeOf f13)) F G (contX pl13 prog J 129 n0 13 ct13 yp15 (codeOf f13) [Nx n0 (RdU s) (RdI s H2 b1 pt lv) (i,t,en)] (RetQ prog [.cell 2 27,.tmp 3,.tmp 4] n0 K)) := by
 rw [s13_4]
 have hpl := parts_le 10 s
 have hlen := M.len
 have hi := M.hi
 have hcnt := M.cnt
 simp only [M.r6,M.r7,M.r8,M.r10,rq,r13]
 cases q with
 | true =>
  have T := M.T (k1 rfl).1
  refine cnd_true.2 (offI (ldI (v := cv) T.cell rfl (ownX_val T.oc).2.2 (load_part (c := r.cells) M.c10 (by simp [Rng.cells]) rfl rfl ⟨by decide,fill_four (l := r.cells) rfl rfl rfl (by decide) (fillI (qNew fun H4 p4 e4 S4 c4 l4 => ⟨by decide,?_⟩))⟩)))
  have c4 : H4[p4]? = some (.cells r.cells true 0) := c4
  have T4 := T.keep S4
  refine ownX_more T4.oc (by omega) (by omega) (ownX_sli (ownX_new (s := 2) (n := 1) (l := r.cells) c4 rfl rfl)) fun cv' H7 p7 e7 O7 S7 => offI ?_
  have S07 : SameX [] H2 H7 := (M.S.trans S4).thru S7 fun x hx => by
   have := (T.b1 x (by simpa using hx)).1
   exact .inr (Nat.not_lt.1 this)
  have lpt := lt_of_get T.cell
  have c7 : H7[pt]? = some (.cells (talCells t cv nv) true 0) := by
   rw [S7.2 pt (Nat.lt_of_lt_of_le lpt S4.1) (fun hm => (T.b1 pt (by simpa using hm)).2 rfl),S4.2 pt lpt (by simp)]
   exact T.cell
  refine qSt c7 (by rw [cs_val]; omega) (ownX_val O7).1 (ownX_val O7).2.1 fun H8 S8 c8 l8 => ?_
  have c8 : H8[pt]? = some (.cells (talCells { t with changes := t.changes ++ [r] } cv' nv) true 0) := c8
  refine addI (by omega) ⟨(i + 1,{ t with changes := t.changes ++ [r] },en),by show (partsB 10 s).length - (i + 1) < (partsB 10 s).length - i; omega,.inl ⟨M.ds,M.r2,M.r5,M.r6,M.r7,rfl,M.hi,S07.thru S8 (fun x hx => by rw [List.mem_singleton.1 hx]; exact .inr (Nat.not_lt.1 T.low)),⟨cv',nv,some p7,o2,⟨T.low,c8,?_,?_,fun i hi => ?_,T.b2,fun i hi e => ?_⟩,fun h => absurd h (Nat.succ_ne_zero i)⟩,by simp; omega,?_⟩⟩
  ·have e1 : (t.changes ++ [r]).flatMap Rng.cells = t.changes.flatMap Rng.cells ++ r.cells := by simp
   have e2 : (t.changes ++ [r]).length = t.changes.length + 1 := by simp
   show OwnX H8 2 ((t.changes ++ [r]).flatMap Rng.cells) (t.changes ++ [r]).length cv' (some p7)
   rw [e1,e2]
   exact ownX_keep O7 S8 fun i hi hm => by
    cases hi
    have : p7 = pt := by simpa using hm
    have := S4.1
    omega
  ·refine ownX_keep (ownX_keep T4.on S7 fun i hi hm => T.ne i (by simpa using hm) hi) S8 fun i hi hm => ?_
   exact (T.b2 i hi).2 (by simpa using hm)
  ·cases hi
   have := S4.1
   have := M.S.1
   exact ⟨by omega,by omega⟩
  ·cases hi
   have := ownX_lt T.on _ e
   have := S4.1
   omega
  ·rw [M.lin]
   exact linesT_some M.hu (k1 rfl).2
 | false =>
  obtain ⟨kb,kw⟩ := k2 rfl
  refine cnd_false.2 (gtrI (cndI (fun h0 => notI ?_) fun h0 => hold.2 ?_))
  ·cases en with
   | true => exact cnd_false.2 (hold.2 (rdr_5 hK (M.to rfl rfl rfl rfl rfl rfl rfl rfl) (q := false) rfl (fun h => by cases h) fun _ => ⟨fun _ => kb (.inr rfl),fun _ h => by cases h⟩))
   | false =>
    refine cnd_true.2 (hold.2 (rdr_5 hK (M.to rfl rfl rfl rfl rfl rfl rfl rfl) (q := q2) rfl (fun h => ?_) fun h => ?_))
    ·rw [h] at hq2
     exact ⟨by omega,line_cnt (by omega) hq2⟩
    ·rw [h] at hq2
     exact ⟨fun h => absurd h (by simp; omega),fun h1 h2 h3 => line_bad h1 (kw h1 h2) hq2 h3⟩
  ·exact rdr_5 hK (M.to rfl rfl rfl rfl rfl rfl rfl rfl) (q := false) rfl (fun h => by cases h) fun _ => ⟨fun _ => kb (.inl (by omega)),fun h => absurd h (by omega)⟩
theorem rdr_2 (hK : ∀ H' cv nv,SameX [b1] H2 H' → TalAt H' (.agg ⟨talCells (readTal s) cv nv⟩) (readTal s) cv nv → K (.tuple ⟨[.agg ⟨talCells (readTal s) cv nv⟩,vint (readE s).1,vint (readE s).2]⟩) H') (M : RdM s H2 b1 pt p10 p12 lv i u t en cv nv o1 o2 r c F G) {q1 q2 : Bool} (rq : F.r 49 = .bool false) (r11 : F.r 11 = .bool q1) (hq1 : rngB wChange u = bif q1 then some r else none) (r13 : F.r 13 = .bool q2) (hq2 : countT (partsB 32 u) = bif q2 then some c else none)
    (kb : i = 0 ∨ en = true → lineT i u (t,en) = none) :
    W prog J 129 n0 13 (subC yp20 (codeOf f13)) F G (contX pl13 prog J 129 n0 13 ct13 yp20 (codeOf f13) [Nx n0 (RdU s) (RdI s H2 b1 pt lv) (i,t,en)] (RetQ prog [.cell 2 27,.tmp 3,.tmp 4] n0 K)) := by
  rw [s13_2]
  simp only [M.r6,M.r7,M.r8,r11,rq]
  refine cnd_false.2 (gtrI (cndI (fun h0 => notI ?_) fun h0 => hold.2 ?_))
  · cases en with
    | true => exact cnd_false.2 (hold.2 (rdr_4 hK (M.to rfl rfl rfl rfl rfl rfl rfl rfl) (q := false) rfl r13 hq2 (fun h => by cases h) fun _ => ⟨fun _ => kb (.inr rfl),fun _ h => by cases h⟩))
    | false =>
      have T := M.T (by omega)
      refine cnd_true.2 ?_
      cases q1 with
      | true =>
        refine cnd_true.2 (offI (ldI (v := nv) T.cell rfl (ownX_val T.on).2.2 (lenI (ownX_sli T.on) (eqlI (hold.2 ?_)))))
        refine rdr_4 hK (M.to rfl rfl rfl rfl rfl rfl rfl rfl) rfl r13 hq2 (fun h => ?_) fun h => ?_
        · have h : t.counts.length = 0 := by have : ((t.counts.length : Nat) : Int) = 0 := by simpa using h
                                             omega
          exact ⟨by omega,line_chg (by omega) hq1 (List.length_eq_zero_iff.1 h)⟩
        · have h : ¬ ((t.counts.length : Nat) : Int) = 0 := by simpa using h
          exact ⟨fun h' => absurd h' (by simp; omega),fun _ _ => .inr fun e => h (by rw [e]; rfl)⟩
      | false =>
        refine cnd_false.2 (hold.2 ?_)
        exact rdr_4 hK (M.to rfl rfl rfl rfl rfl rfl rfl rfl) (q := false) rfl r13 hq2 (fun h => by cases h) fun _ => ⟨fun h' => absurd h' (by simp; omega),fun _ _ => .inl hq1⟩
  · exact rdr_4 hK (M.to rfl rfl rfl rfl rfl rfl rfl rfl) (q := false) rfl r13 hq2 (fun h => by cases h) fun _ => ⟨fun _ => kb (.inl (by omega)),fun h => absurd h (by omega)⟩
theorem rdr_2t {t' : Tal} (rq : F.r 49 = .bool true) (r8 : F.r 8 = vint (i : Nat)) (hi : i + 1 < (partsB 10 s).length) (hl : s.length ≤ 300) (kk : ∀ {F' : RG},F'.ds = F.ds → F'.r 2 = F.r 2 → F'.r 5 = F.r 5 → F'.r 6 = F.r 6 → F'.r 7 = F.r 7 → F'.r 8 = vint ((i + 1 : Nat) : Int) → RdI s H2 b1 pt lv (i + 1,t',en) F' G) :
  W prog J 129 n0 13 (subC yp20 (codeOf f13)) F G (contX pl13 prog J 129 n0 13 ct13 yp20 (codeOf f13) [Nx n0 (RdU s) (RdI s H2 b1 pt lv) (i,t,en)] (RetQ prog [.cell 2 27,.tmp 3,.tmp 4] n0 K)) := by
 rw [s13_2]
 have hpl := parts_le 10 s
 simp only [rq,r8]
 exact cnd_true.2 (addI (by omega) ⟨(i + 1,t',en),by show (partsB 10 s).length - (i + 1) < (partsB 10 s).length - i; omega,.inl (kk rfl rfl rfl rfl rfl rfl)⟩)
theorem good13 (hJ : Closed prog main J) {H : List AObj} (hK : ∀ H' cv nv,SameX [] H H' → TalAt H' (.agg ⟨talCells (readTal s) cv nv⟩) (readTal s) cv nv → K (.tuple ⟨[.agg ⟨talCells (readTal s) cv nv⟩,vint (readE s).1,vint (readE s).2]⟩) H') : Good prog J 13 [strV s] H K := by
 refine g13 hJ fun ok => ?_
 rw [e13]
 refine qAl fun H1 b1 e1 S1 c1 l1 => lenStr (gtrI (cndI (fun h => ?_) fun h => ?_))
 ·have hre : readE s = (0,10) := if_pos (by omega)
  have hrt : readTal s = tal0 := if_neg (by rw [hre]; decide)
  rw [hre,hrt] at hK
  exact fillI (qStA (c := talZ) c1 rfl rfl rfl fun H2 S2 c2 l2 => retR (t := tal0) (cv := .slice none 0 0) (nv := .slice none 0 0) (a := 0) (e := 10) rfl rfl rfl rfl c2 rfl (hK H2 _ _ (S1.thru S2 (by simp; omega)) talAt_zero))
 have hlen : s.length ≤ 300 := by omega
 refine good36 (c := 10) hJ (by omega) fun lv H2 S2 sl => ?_
 have hb := S2.get c1 (by simp)
 have S02 := S1.trans S2
 have lb := lt_of_get hb
 have hK2 : ∀ H' cv nv,SameX [b1] H2 H' → TalAt H' (.agg ⟨talCells (readTal s) cv nv⟩) (readTal s) cv nv → K (.tuple ⟨[.agg ⟨talCells (readTal s) cv nv⟩,vint (readE s).1,vint (readE s).2]⟩) H' := fun H' cv nv S T => hK H' cv nv (S02.thru S (by simp; omega)) T
 clear hK
 refine qAl fun H3 pt e3 S3 c3 l3 => ?_
 have hne := partsB_ne 10 s
 have hpos : 1 ≤ (partsB 10 s).length := List.length_pos_iff.2 hne
 have hpl := parts_le 10 s
 refine l13_1 hJ (S := Nat × Tal × Bool) (RdU s) (RdI s H2 b1 pt lv) ?_ (s := (0,tal0,false)) (.inl ⟨rfl,rfl,rfl,rfl,rfl,rfl,hpos,S3,⟨.slice none 0 0,.slice none 0 0,none,none,⟨by simp; omega,c3,ownX_nil,ownX_nil,(fun i e => by cases e),(fun i e => by cases e),(fun i e => by cases e)⟩,fun _ => ⟨rfl,rfl,rfl,rfl⟩⟩,Nat.le_refl _,rfl⟩)
 rintro ⟨i,t,en⟩ F G ⟨ds,r2,r5,r6,r7,r8,hi,S,⟨cv,nv,o1,o2,T,hz⟩,hcnt,hlin⟩ ok' hn'
 simp only at r7 r8 hi T hz hcnt hlin
 rw [s13_1]
 simp only [r5,r6,r7,r8]
 have slG := S.sli sl (by simp)
 refine lenI slG (subI (by omega) (lssI (cndI (fun hlt => ?_) fun hge => notI ?_)))
 ·have hiL : i + 1 < (partsB 10 s).length := by omega
  obtain ⟨u,hu⟩ : ∃ u,(partsB 10 s)[i]? = some u := ⟨_,List.getElem?_eq_getElem (by omega)⟩
  have hud : (partsB 10 s).dropLast[i]? = some u := by
   rw [List.getElem?_dropLast,if_pos (by omega)]
   exact hu
  have hul := partsB_len (c := 10) s u (List.mem_of_getElem? hu)
  have hix : ((partsB 10 s).map strV)[((i : Nat) : Int).toNat]? = some (strV u) := by
   rw [Int.toNat_natCast,List.getElem?_map,hu]
   rfl
  refine idx_load (x := strV u) slG ⟨by omega,by omega⟩ hix fun _ => good36 (c := 32) hJ (by omega) fun wv H4 S4 slw => ?_
  refine idx_load (x := strV u) (S4.sli slG (by simp)) ⟨by omega,by omega⟩ hix fun _ => ?_
  refine good37q (w := u) (p := wChange ++ [61]) hJ (by omega) ?_
  intro r q1 hq1
  refine ext0 (ext1 ?_)
  have hq1 : rngB wChange u = _ := hq1
  refine qAl fun H5 p10 e5 S5 c5 l5 => qStA (c := r.cells) c5 rfl rfl rfl fun H6 S6 c6 l6 => ?_
  have S46 : SameX [] H4 H6 := S5.thru S6 (by simp; omega)
  have hwl : ∀ x ∈ partsB 32 u,x.length ≤ 2000 := fun x hx => by have := partsB_len (c := 32) u x hx; omega
  refine good38 hJ (S46.sli slw (by simp)) hwl fun c q2 hq2 => ext0 (ext1 ?_)
  refine qAl fun H7 p12 e7 S7 c7 l7 => qStA (c := c.cells) c7 rfl rfl rfl fun H8 S8 c8 l8 => ?_
  have S68 : SameX [] H6 H8 := S7.thru S8 (by simp; omega)
  have SG8 : SameX [] G H8 := (S4.trans S46).trans S68
  have c68 := S68.get c6 (by simp)
  have M : ∀ {F' : RG} {G' : List AObj} {t' : Tal},t' = t → F'.ds = [] → F'.r 2 = ptr b1 0 → F'.r 5 = lv → F'.r 6 = ptr pt 0 → F'.r 7 = .bool en → F'.r 8 = vint (i : Nat) → F'.r 10 = ptr p10 0 → F'.r 12 = ptr p12 0 → SameX [] H2 G' → (i ≠ 0 → TalY (fun i => i < H2.length) G' pt t cv nv o1 o2) → G'[p10]? = some (.cells r.cells true 0) → G'[p12]? = some (.cells c.cells true 0) → RdM s H2 b1 pt p10 p12 lv i u t en cv nv o1 o2 r c F' G' :=
   fun e a1 a2 a3 a4 a5 a6 a7 a8 a9 a10 a11 a12 => ⟨a1,a2,a3,a4,a5,a6,a7,a8,a9,a10,a11,a12,hb,sl,hiL,hud,hcnt,hlen,hlin⟩
  refine eqlI (cndI (fun h0 => ?_) fun h0 => hold.2 ?_)
  ·have hi0 : i = 0 := by omega
   obtain ⟨rfl,rfl,rfl,rfl⟩ := hz hi0
   have cp8 : H8[pt]? = some (.cells talZ true 0) := SG8.get T.cell (by simp)
   refine good39 hJ cp8 ((S46.trans S68).sli slw (by simp)) hwl (fun t' ht' hc1 hc2 H9 S9 c9 => hold.2 ?_) fun ht' H9 S9 => hold.2 ?_
   ·refine rdr_2t (t' := t') rfl r8 hiL hlen fun d2 d3 d5 d6 d7 d8 => ⟨d2.trans ds,d3.trans r2,d5.trans r5,d6.trans r6,d7.trans r7,d8,hiL,(S.trans SG8).thru S9 (fun x hx => by rw [List.mem_singleton.1 hx]; exact .inr (Nat.not_lt.1 T.low)),⟨.slice none 0 0,.slice none 0 0,none,none,⟨T.low,c9,by rw [hc1]; exact ownX_nil,by rw [hc2]; exact ownX_nil,(fun i e => by cases e),(fun i e => by cases e),(fun i e => by cases e)⟩,fun h => absurd h (Nat.succ_ne_zero i)⟩,by rw [hc1,hc2]; simp,?_⟩
    rw [hlin]
    refine linesT_some hud ?_
    rw [hi0,line_head,headT_w3,ht']
    rfl
   ·refine rdr_2 hK2 (M rfl ds r2 r5 r6 r7 r8 rfl rfl ((S.trans SG8).thru S9 (fun x hx => by rw [List.mem_singleton.1 hx]; exact .inr (Nat.not_lt.1 T.low))) (fun h => absurd hi0 h) ?_ ?_) rfl rfl hq1 rfl hq2 fun _ => ?_
    ·exact S9.get c68 (by simp; have := lt_of_get T.cell; have := S4.1; omega)
    ·exact S9.get c8 (by simp; have := lt_of_get T.cell; have := S4.1; have := S46.1; omega)
    ·rw [hi0,line_head,headT_w3,ht']
     rfl
  ·refine rdr_2 hK2 (M rfl ds r2 r5 r6 r7 r8 rfl rfl (S.trans SG8) (fun _ => T.keep SG8) c68 c8) rfl rfl hq1 rfl hq2 fun h => ?_
   rcases h with h | h
   ·omega
   ·rw [h]
    exact line_over
 ·-- the end
  have hin : i + 1 = (partsB 10 s).length := by omega
  have hlin' : linesT 0 (partsB 10 s).dropLast (tal0,false) = .inr (t,en) := by
   rw [hlin,List.drop_of_length_le (by rw [List.length_dropLast]; omega)]
   rfl
  obtain ⟨u,hu⟩ : ∃ u,(partsB 10 s)[i]? = some u := ⟨_,List.getElem?_eq_getElem (by omega)⟩
  have hlast : (partsB 10 s).getLast? = some u := by
   rw [List.getLast?_eq_getElem?,← hin]
   exact hu
  have fin : ∀ {F : RG} {q : Bool},F.ds = [] → F.r 2 = ptr b1 0 → F.r 5 = lv → F.r 6 = ptr pt 0 → F.r 118 = .bool q → (q = false ↔ en = true ∧ u = []) → _ := fun {F q} ds r2 r5 r6 r118 hq => show W prog J 129 H.length 13 (subC yp32 (codeOf f13)) F G (contX pl13 prog J 129 H.length 13 ct13 yp32 (codeOf f13) [] (RetQ prog [.cell 2 27,.tmp 3,.tmp 4] H.length K)) by
   rw [s13_3]
   simp only [r2,r5,r6,r118]
   have cb := S.get hb (by simp)
   cases q with
   | true =>
    have hr : readT s = .inl (partsB 10 s).length := by
     unfold readT
     rw [hlin',hlast]
     show (if en = true ∧ some u = some [] then _ else _) = _
     rw [if_neg (fun h => by have := hq.2 ⟨h.1,by simpa using h.2⟩; cases this)]
    refine cnd_true.2 (fillI (lenI slG (qStA (c := talZ) cb rfl rfl rfl fun H5 S5 c5 l5 => ?_)))
    exact retR (t := tal0) (cv := .slice none 0 0) (nv := .slice none 0 0) (e := 2) ds r2 rfl rfl c5 rfl (rdK_bad hK2 hlen hr (S.weak0.trans S5))
   | false =>
    obtain ⟨he,hue⟩ := hq.1 rfl
    subst he hue
    have hr : readT s = .inr t := by
     unfold readT
     rw [hlin',hlast]
     exact if_pos ⟨rfl,rfl⟩
    have hre := readE_of hlen
    rw [hr] at hre
    have hre : readE s = (0,talErr t) := hre
    have TT : TalAt G (.agg ⟨talCells t cv nv⟩) t cv nv := ⟨rfl,ownX_sli T.oc,ownX_sli T.on⟩
    have hkn := talAt_kc TT
    have hone := tal_one TT
    refine cnd_false.2 (load_part (b := pt) (c := talCells t cv nv) T.cell (by rw [cs_val]; omega) rfl hkn (good30 hJ TT (neqI (cndI (fun he => ?_) fun he => ?_))))
    ·have hrt : readTal s = tal0 := if_neg (by rw [hre]; exact he)
     rw [hre,hrt] at hK2
     refine fillI (qStA (c := talZ) cb rfl rfl rfl fun H5 S5 c5 l5 => ?_)
     exact retR (t := tal0) (cv := .slice none 0 0) (nv := .slice none 0 0) (a := 0) (e := talErr t) ds r2 rfl rfl c5 rfl (hK2 H5 _ _ (S.weak0.trans S5) talAt_zero)
    ·have he0 : talErr t = 0 := Decidable.not_not.1 he
     have hrt : readTal s = t := by
      unfold readTal
      rw [if_pos (by rw [hre]; exact he0),hr]
     rw [hre,hrt,he0] at hK2
     refine load_part (b := pt) (c := talCells t cv nv) T.cell (by rw [cs_val]; omega) rfl hkn (qStA (c := talCells t cv nv) cb rfl rfl hone fun H5 S5 c5 l5 => ?_)
     have P1 := ownX_keep T.oc S5 fun i hi hm => by have := (T.b1 i hi).1; have : i = b1 := (by simpa using hm); omega
     have P2 := ownX_keep T.on S5 fun i hi hm => by have := (T.b2 i hi).1; have : i = b1 := (by simpa using hm); omega
     exact retR (t := t) (a := 0) (e := 0) ds r2 rfl rfl c5 hkn (hK2 H5 _ _ (S.weak0.trans S5) ⟨rfl,ownX_sli P1,ownX_sli P2⟩)
  cases en with
  | false => exact cnd_true.2 (hold.2 (fin ds r2 r5 r6 (q := true) rfl ⟨(fun h => by cases h),fun h => by cases h.1⟩))
  | true =>
   refine cnd_false.2 (lenI slG (subI (by omega) (idx_load (x := strV u) slG ⟨by omega,by omega⟩ (by
    have : (((partsB 10 s).length : Int) - 1).toNat = i := by omega
    rw [this,List.getElem?_map,hu]
    rfl) fun _ => neS (b := []) (hold.2 (fin ds r2 r5 r6 rfl ?_)))))
   rw [decide_eq_false_iff_not,Decidable.not_not]
   exact ⟨fun h => ⟨rfl,h⟩,fun h => h.2⟩
end
end Go.Proofs.YtlladcglhjlbpaaGreatDoor
namespace Go.Proofs.YtlladcglhjlbpaaGreatDoor
open Go.Conc Go.Proofs.Tryz
set_option maxRecDepth 100000
set_option maxHeartbeats 4000000
set_option linter.unusedVariables false
section
variable {main : Bool} {J : JT} {n0 : Nat} {h : List AObj} {K : Value → List AObj → Prop}
theorem at10 : prog.funcs[10]? = some f10 := by kernel_rfl
theorem body10 : f10.body = some (codeOf f10) := by kernel_rfl
def pl10 : Plans := [(4,false,.take 0 (.take 1 (.take 5 (.take 6 (.take 10 (.take 11 (.last 2 true (.take 3 (.take 4 (.last 7 true (.take 8 (.take 9 (.last 12 true (.take 13 (.take 14 (.take 15 (.fin))))))))))))))))),
 (13,false,.take 0 (.take 1 (.take 2 (.take 3 (.take 7 (.take 8 (.take 12 (.take 13 (.take 17 (.take 18 (.last 4 true (.take 5 (.take 6 (.last 9 true (.take 10 (.take 11 (.last 14 true (.take 15 (.take 16 (.last 19 true (.take 20 (.take 21 (.take 22 (.fin))))))))))))))))))))))))]
def ct10 : Cuts := .go
theorem pok10 : plansOk prog pl10 (codeOf f10) = true := by kernel_rfl
theorem e10 {a0 : Value} : W prog J 82 h.length 10 (codeOf f10) (RG.mk (regs [a0]) []) h (RetQ prog [.tmp 2,.tmp 3] h.length K) =
(aBox a0 h fun v1 h2 =>
aLoad true 6 v1 h2 fun v3 =>
Good prog J 30 [v3] h2 fun v4 h5 =>
aBin prog .neq 36 v4 (vint 0) fun v6 =>
cnd v6
(retL h.length K [] [(Value.string { data := #[] }),v4] h5)
((∃ B,aOff v1 0 fun v7 =>
aLoad false 1 v7 h5 fun v8 =>
RdOk (some B) (ptrBlk v7) ∧ (aOff v1 1 fun v9 =>
aLoad true 2 v9 h5 fun v10 =>
RdOk (some B) (ptrBlk v9) ∧ (aOff v1 4 fun v11 =>
aLoad false 1 v11 h5 fun v12 =>
RdOk (some B) (ptrBlk v11) ∧ (Good prog J 31 [v8] h5 fun v13 h14 =>
SameB (some B) h5 h14 ∧ (aBin prog .add 9 (Value.string { data := #[103,97,116,101,115,61] }) v13 fun v15 =>
aBin prog .add 9 v15 (Value.string { data := #[32,102,105,114,115,116,61] }) fun v16 =>
Good prog J 32 [v10] h14 fun v17 h18 =>
SameB (some B) h5 h18 ∧ (aBin prog .add 9 v16 v17 fun v19 =>
aBin prog .add 9 v19 (Value.string { data := #[32,108,111,115,116,61] }) fun v20 =>
Good prog J 31 [v12] h18 fun v21 h22 =>
SameB (some B) h5 h22 ∧ (aBin prog .add 9 v20 v21 fun v23 =>
aBin prog .add 9 v23 (Value.string { data := #[10] }) fun v24 =>
Sem J 82 h.length 10 (subC yp1 (codeOf f10)) (RG.p (RG.p (RG.p (RG.p (RG.p (RG.p (RG.p (RG.p (RG.p (RG.p (RG.p (RG.p (RG.p (RG.p (RG.p (RG.p (RG.p (RG.p (RG.p (RG.p (RG.p (RG.p (RG.p (RG.p (RG.p (RG.mk (regs [a0]) []) 1 v1) 2 (Value.string { data := #[] })) 3 (vint 0)) 9 v3) 10 v4) 4 v4) 11 v4) 12 v6) 14 v7) 15 v8) 19 v9) 20 v10) 24 v11) 25 v12) 16 v13) 17 v15) 18 v16) 21 v17) 22 v19) 23 v20) 26 v21) 27 v23) 28 v24) 5 v24) 6 (vint 0)) h22 (contX pl10 prog J 82 h.length 10 ct10 yp1 (codeOf f10) [] (RetQ prog [.tmp 2,.tmp 3] h.length K))))))))))) := top_eq pok10 ct10 (by kernel_rfl)
theorem g10 (hJ : Closed prog main J) {a0 : Value} (hs : heapOk h → W prog J 82 h.length 10 (codeOf f10) (RG.mk (regs [a0]) []) h (RetQ prog [.tmp 2,.tmp 3] h.length K)) : Good prog J 10 [a0] h K :=
 good_of_W hJ mixed at10 body10 (by kernel_rfl) (Nat.le_of_ble_eq_true rfl) hs
theorem s10_1 {f : RG} {nx0 : RG → List AObj → Prop} : W prog J 82 n0 10 (subC yp6 (codeOf f10)) f h (thenK nx0 (contX pl10 prog J 82 n0 10 ct10 yp1 (codeOf f10) [] (RetQ prog [.tmp 2,.tmp 3] n0 K))) =
(aOff (f.r 1) 3 fun v1 =>
aLoad false 1 v1 h fun v2 =>
aLenS v2 fun v3 =>
aBin prog .lss 3 (f.r 6) v3 fun v4 =>
cnd v4
(aBin prog .add 9 (f.r 5) (Value.string { data := #[99,104,97,110,103,101,61] }) fun v5 =>
aOff (f.r 1) 3 fun v6 =>
aLoad false 1 v6 h fun v7 =>
aIdx 2 v7 (f.r 6) fun v8 =>
aLoad true 2 v8 h fun v9 =>
Good prog J 32 [v9] h fun v10 h11 =>
aBin prog .add 9 v5 v10 fun v12 =>
aBin prog .add 9 v12 (Value.string { data := #[10] }) fun v13 =>
aBin prog .add 3 (f.r 6) (vint 1) fun v14 =>
nx0 (RG.p (RG.p (RG.p (RG.p (RG.p (RG.p (RG.p (RG.p (RG.p (RG.p (RG.p (RG.p (RG.p (RG.p (RG.p (RG.p (RG.p (RG.p (RG.p f 29 (f.r 6)) 30 v1) 31 v2) 32 v3) 33 v4) 36 (f.r 5)) 37 v5) 38 v6) 39 v7) 40 (f.r 6)) 41 v8) 42 v9) 43 v10) 44 v12) 45 v13) 5 v13) 34 (f.r 6)) 35 v14) 6 v14) h11)
(Sem J 82 n0 10 (subC yp0 (codeOf f10)) (RG.p (RG.p (RG.p (RG.p (RG.p (RG.p f 29 (f.r 6)) 30 v1) 31 v2) 32 v3) 33 v4) 7 (vint 0)) h (contX pl10 prog J 82 n0 10 ct10 yp0 (codeOf f10) [] (RetQ prog [.tmp 2,.tmp 3] n0 K)))) := sub_eq pok10 ct10 (by kernel_rfl)
theorem l10_1 (hJ : Closed prog main J) {S : Type} (μ : S → Nat) (I : S → RG → List AObj → Prop) (hI : ∀ s f h,I s f h → heapOk h → n0 ≤ h.length → W prog J 82 n0 10 (subC yp6 (codeOf f10)) f h (thenK (Nx n0 μ I s) (contX pl10 prog J 82 n0 10 ct10 yp1 (codeOf f10) [] (RetQ prog [.tmp 2,.tmp 3] n0 K))))
 {s : S} {f : RG} (hi : Gets n0 I s f h) : Sem J 82 n0 10 (subC yp1 (codeOf f10)) f h (contX pl10 prog J 82 n0 10 ct10 yp1 (codeOf f10) [] (RetQ prog [.tmp 2,.tmp 3] n0 K)) :=
 loop_rule hJ mixed (b := subC yp6 (codeOf f10)) (by kernel_rfl) μ I hI hi
theorem s10_2 {f : RG} {nx0 : RG → List AObj → Prop} : W prog J 82 n0 10 (subC yp4 (codeOf f10)) f h (thenK nx0 (contX pl10 prog J 82 n0 10 ct10 yp0 (codeOf f10) [] (RetQ prog [.tmp 2,.tmp 3] n0 K))) =
(aOff (f.r 1) 5 fun v1 =>
aLoad false 1 v1 h fun v2 =>
aLenS v2 fun v3 =>
aBin prog .lss 3 (f.r 7) v3 fun v4 =>
cnd v4
(aOff (f.r 1) 5 fun v5 =>
aLoad false 1 v5 h fun v6 =>
aIdx 4 v6 (f.r 7) fun v7 =>
aLoad true 4 v7 h fun v8 =>
aAlloc [(vint 0),(vint 0),(vint 0),(vint 0)] h fun v9 h10 =>
aStore 4 v9 v8 h10 fun h11 =>
(∃ B,aBin prog .add 9 (f.r 5) (Value.string { data := #[99,111,117,110,116,32,103,97,116,101,61] }) fun v12 =>
aOff v9 0 fun v13 =>
aLoad false 1 v13 h11 fun v14 =>
RdOk (some B) (ptrBlk v13) ∧ (aOff v9 1 fun v15 =>
aLoad false 1 v15 h11 fun v16 =>
RdOk (some B) (ptrBlk v15) ∧ (aOff v9 2 fun v17 =>
aLoad false 1 v17 h11 fun v18 =>
RdOk (some B) (ptrBlk v17) ∧ (aOff v9 3 fun v19 =>
aLoad false 1 v19 h11 fun v20 =>
RdOk (some B) (ptrBlk v19) ∧ (Good prog J 31 [v14] h11 fun v21 h22 =>
SameB (some B) h11 h22 ∧ (aBin prog .add 9 v12 v21 fun v23 =>
aBin prog .add 9 v23 (Value.string { data := #[32,109,97,110,61] }) fun v24 =>
Good prog J 31 [v16] h22 fun v25 h26 =>
SameB (some B) h11 h26 ∧ (aBin prog .add 9 v24 v25 fun v27 =>
aBin prog .add 9 v27 (Value.string { data := #[32,110,117,109,98,101,114,61] }) fun v28 =>
Good prog J 31 [v18] h26 fun v29 h30 =>
SameB (some B) h11 h30 ∧ (aBin prog .add 9 v28 v29 fun v31 =>
aBin prog .add 9 v31 (Value.string { data := #[32,101,114,114,61] }) fun v32 =>
Good prog J 31 [v20] h30 fun v33 h34 =>
SameB (some B) h11 h34 ∧ (aBin prog .add 9 v32 v33 fun v35 =>
aBin prog .add 9 v35 (Value.string { data := #[10] }) fun v36 =>
aBin prog .add 3 (f.r 7) (vint 1) fun v37 =>
nx0 (RG.p (RG.p (RG.p (RG.p (RG.p (RG.p (RG.p (RG.p (RG.p (RG.p (RG.p (RG.p (RG.p (RG.p (RG.p (RG.p (RG.p (RG.p (RG.p (RG.p (RG.p (RG.p (RG.p (RG.p (RG.p (RG.p (RG.p (RG.p (RG.p (RG.p (RG.p (RG.p (RG.p (RG.p (RG.p (RG.p (RG.p f 46 (f.r 7)) 47 v1) 48 v2) 49 v3) 50 v4) 53 v5) 54 v6) 55 (f.r 7)) 56 v7) 57 v8) 8 v9) 58 (f.r 5)) 59 v12) 60 v13) 61 v14) 65 v15) 66 v16) 70 v17) 71 v18) 75 v19) 76 v20) 62 v21) 63 v23) 64 v24) 67 v25) 68 v27) 69 v28) 72 v29) 73 v31) 74 v32) 77 v33) 78 v35) 79 v36) 5 v36) 51 (f.r 7)) 52 v37) 7 v37) h34))))))))))
(aBin prog .add 9 (f.r 5) (Value.string { data := #[116,97,108,108,105,101,100,10] }) fun v38 =>
retL n0 K f.ds [v38,(vint 0)] h)) := sub_eq pok10 ct10 (by kernel_rfl)
theorem l10_2 (hJ : Closed prog main J) {S : Type} (μ : S → Nat) (I : S → RG → List AObj → Prop) (hI : ∀ s f h,I s f h → heapOk h → n0 ≤ h.length → W prog J 82 n0 10 (subC yp4 (codeOf f10)) f h (thenK (Nx n0 μ I s) (contX pl10 prog J 82 n0 10 ct10 yp0 (codeOf f10) [] (RetQ prog [.tmp 2,.tmp 3] n0 K))))
 {s : S} {f : RG} (hi : Gets n0 I s f h) : Sem J 82 n0 10 (subC yp0 (codeOf f10)) f h (contX pl10 prog J 82 n0 10 ct10 yp0 (codeOf f10) [] (RetQ prog [.tmp 2,.tmp 3] n0 K)) :=
 loop_rule hJ mixed (b := subC yp4 (codeOf f10)) (by kernel_rfl) μ I hI hi
end
end Go.Proofs.YtlladcglhjlbpaaGreatDoor
namespace Go.Proofs.YtlladcglhjlbpaaGreatDoor
open Go.Conc Go.Proofs.Tryz
set_option maxRecDepth 100000
def spanR (r : Rng) : List UInt8 := itoaB r.lo ++ [46,46] ++ itoaB r.hi
theorem spanR_len (r : Rng) : (spanR r).length ≤ 12 := by
 have := itoaB_len r.lo
 have := itoaB_len r.hi
 simp [spanR]
 omega
theorem head_is (t : Tal) : ((((wGates ++ [61]) ++ itoaB t.gates) ++ (32 :: wFirst ++ [61])) ++ spanR t.first ++ (32 :: wLost ++ [61])) ++ itoaB t.most ++ [10] = headB t := by
 simp [headB,lineB,joinR,namedB,spanB,spanR,List.append_assoc]
theorem change_is (r : Rng) : (wChange ++ [61]) ++ spanR r ++ [10] = changeB r := by
 simp [changeB,lineB,joinR,namedB,spanB,spanR,List.append_assoc]
theorem count_is (c : Cnt) : (wCount ++ 32 :: wGate ++ [61]) ++ itoaB c.gate ++ (32 :: wMan ++ [61]) ++ itoaB c.man ++ (32 :: wNumber ++ [61]) ++ itoaB c.num ++ (32 :: wErr ++ [61]) ++ itoaB c.err ++ [10] = countB c := by
 simp [countB,lineB,joinR,namedB,List.append_assoc]
section
variable {main : Bool} {J : JT} {h H : List AObj} {K : Value → List AObj → Prop} {KV : Value → Prop} {HL : List AObj → Prop} {n0 : Nat}
theorem good32 (hJ : Closed prog main J) (hG : PowAt H) {r : Rng} (hn : (-1000 < r.lo ∧ r.lo < 1000) ∧ -1000 < r.hi ∧ r.hi < 1000) (hK : K (strV (spanR r)) H) : Good prog J 32 [r.val] H K := by
 refine g32 hJ fun ok => ?_
 rw [e32]
 have := itoaB_len r.hi
 have := itoaB_len r.lo
 refine qBox (l := r.cells) rfl fun H2 p e2 S2 c2 l2 => ?_
 refine ⟨[p],offI (ldI c2 rfl rfl ⟨by simp [ptrBlk,RdOk],offI (ldI c2 rfl rfl ⟨by simp [ptrBlk,RdOk],?_⟩)⟩)⟩
 refine good31 hJ (S2.get hG (by simp)) hn.1 ⟨fun _ _ => rfl,catC (u := itoaB r.lo) (v := [46,46]) (by simp; omega) (good31 hJ (S2.get hG (by simp)) hn.2 ⟨fun _ _ => rfl,?_⟩)⟩
 refine catC (by simp; omega) (retX (X := []) ok (Nat.le_refl _) S2 (by simp) (by simp [unk,strV]) (by simp [pack,VOk,strV]) hK)
theorem good10 (hJ : Closed prog main J) (hG : PowAt H) {v cv nv : Value} {t : Tal} (ht : TalAt H v t cv nv) (k1 : talErr t ≠ 0 → K (.tuple ⟨[strV [],vint (talErr t)]⟩) H) (k2 : talErr t = 0 → K (.tuple ⟨[strV (writeB t),vint 0]⟩) H) : Good prog J 10 [v] H K := by
 refine g10 hJ fun ok => ?_
 rw [e10,ht.val]
 have kt := talAt_kc ht
 refine qBox (tal_one ht) fun H1 p1 e1 S1 c1 l1 => ?_
 have t1 : TalAt H1 (.agg ⟨talCells t cv nv⟩) t cv nv := ⟨rfl,S1.sli ht.ch (by simp),S1.sli ht.co (by simp)⟩
 refine load_part (c := talCells t cv nv) c1 (by rw [cs_val]; omega) rfl kt ?_
 refine good30 hJ t1 (neqI (cndI (fun hne => ?_) fun heq => ?_))
 ·exact retX (X := []) ok (Nat.le_refl _) S1 (by simp) (by simp [unk,strV]) (by simp [pack,VOk,AOk,LOk,strV]) (k1 hne)
 have h0 : talErr t = 0 := by omega
 have fine := talErr_fine h0
 have hk2 := k2 h0
 have hgt := fine.gates
 have hfi := fine.first
 have hmo := fine.most
 have hfew := fine.few
 have hch : t.changes.length ≤ 4 := by have := fine.chl; omega
 have hp1 : p1 < H1.length := by omega
 have hG1 : PowAt H1 := S1.get hG (by simp)
 have kcv : kn1 cv = true := (sli_one ht.ch).2.2
 have knv : kn1 nv = true := (sli_one ht.co).2.2
 have wl : wGates.length = 5 ∧ wFirst.length = 5 ∧ wLost.length = 4 ∧ wChange.length = 6 ∧ wCount.length = 5 ∧ wGate.length = 4 ∧ wMan.length = 3 ∧ wNumber.length = 6 ∧ wErr.length = 3 := by decide
 have ig := itoaB_len t.gates
 have im := itoaB_len t.most
 have isp := spanR_len t.first
 refine ⟨[p1],offI (ldI c1 rfl rfl ⟨by simp [ptrBlk,RdOk],offI (load_part (c := t.first.cells) c1 (by rw [cs_val]; omega) rfl rfl ⟨by simp [ptrBlk,RdOk],offI (ldI c1 rfl rfl ⟨by simp [ptrBlk,RdOk],?_⟩)⟩)⟩)⟩
 refine good31 hJ hG1 (by omega) ⟨fun _ _ => rfl,catC (u := wGates ++ [61]) (by simp; omega) (catC (v := 32 :: wFirst ++ [61]) (by simp; omega) ?_)⟩
 refine good32 hJ hG1 (by omega) ⟨fun _ _ => rfl,catC (by simp; omega) (catC (v := 32 :: wLost ++ [61]) (by simp; omega) ?_)⟩
 refine good31 hJ hG1 (by omega) ⟨fun _ _ => rfl,catC (by simp; omega) (catC (v := [10]) (by simp; omega) ?_)⟩
 rw [head_is]
 refine l10_1 hJ (fun k : Nat => t.changes.length - k) (fun k f H3 => k ≤ t.changes.length ∧ SameX [] H H3 ∧ H3[p1]? = some (.cells (talCells t cv nv) true 0) ∧ f.ds = [] ∧ f.r 1 = ptr p1 0 ∧ f.r 5 = strV (headB t ++ (t.changes.take k).flatMap changeB) ∧ f.r 6 = vint (k : Nat)) ?_ (s := 0)
  (.inl ⟨by omega,S1,c1,rfl,rfl,by simp; rfl,rfl⟩)
 rintro k f H3 ⟨hk,T3,c3,ds,r1,r5,r6⟩ ok3 hn3
 rw [s10_1]
 simp only [r1,r5,r6]
 have hG3 : PowAt H3 := T3.get hG (by simp)
 have hbk : (headB t ++ (t.changes.take k).flatMap changeB).length ≤ 300 := by
  have a1 := headB_len t
  have a2 := flat_len changeB_len (t.changes.take k)
  rw [List.length_append]
  have : (t.changes.take k).length ≤ 4 := by rw [List.length_take]; omega
  omega
 have sch := T3.sli ht.ch (by simp)
 refine offI (ldI c3 rfl kcv (lenI sch (lssI (cndI (fun hlt => ?_) fun hge => ?_))))
 ·have hi : k < t.changes.length := by omega
  obtain ⟨A,hA⟩ : ∃ A,A = headB t ++ (t.changes.take k).flatMap changeB := ⟨_,rfl⟩
  rw [← hA] at hbk ⊢
  have fr := fine.ch _ (List.getElem_mem hi)
  refine catC (u := A) (v := wChange ++ [61]) (by simp; omega) ?_
  refine offI (ldI c3 rfl kcv (idx_loadA (enc := Rng.cells) (s := 2) sch (fun r => rng_len r) (by decide) hi (fun pv => ?_)))
  have n4 := spanR_len t.changes[k]
  refine good32 hJ hG3 (r := t.changes[k]) (by omega) (catC (by simp; omega) (catC (v := [10]) (by simp; omega) (addI (by omega) ?_)))
  refine ⟨k + 1,by dsimp only; omega,.inl ⟨by omega,T3,c3,ds,r1,?_,by show vint _ = vint _; congr 1⟩⟩
  show strV _ = strV _
  subst hA
  rw [List.take_add_one,List.getElem?_eq_getElem hi,Option.toList_some,List.flatMap_append,← List.append_assoc]
  have := change_is t.changes[k]
  simp only [List.flatMap_cons,List.flatMap_nil,List.append_nil]
  rw [← this]
  simp [List.append_assoc]
 ·have hke : k = t.changes.length := by omega
  subst hke
  rw [List.take_length] at hbk r5
  refine l10_2 hJ (fun k : Nat => t.counts.length - k) (fun k f H3 => k ≤ t.counts.length ∧ SameX [] H H3 ∧ p1 < H3.length ∧ H3[p1]? = some (.cells (talCells t cv nv) true 0) ∧ f.ds = [] ∧ f.r 1 = ptr p1 0 ∧ f.r 5 = strV ((headB t ++ t.changes.flatMap changeB) ++ (t.counts.take k).flatMap countB) ∧ f.r 7 = vint (k : Nat)) ?_ (s := 0)
   (.inl ⟨by omega,T3,lt_of_get c3,c3,ds,r1,by simp; exact r5,rfl⟩)
  rintro k f' H4 ⟨hk4,T4,lp4,c4,ds4,q1,q5,q7⟩ ok4 hn4
  rw [s10_2]
  simp only [q1,q5,q7]
  have hbc : ((headB t ++ t.changes.flatMap changeB) ++ (t.counts.take k).flatMap countB).length ≤ 2000 := by
   have a2 := flat_len countB_len (t.counts.take k)
   rw [List.length_append]
   have : (t.counts.take k).length ≤ 7 := by rw [List.length_take]; omega
   omega
  have sco := T4.sli ht.co (by simp)
  refine offI (ldI c4 rfl knv (lenI sco (lssI (cndI (fun hlt => ?_) fun hge => ?_))))
  ·have hi : k < t.counts.length := by omega
   obtain ⟨f1,f2,f3,f4⟩ := fine.co _ (List.getElem_mem hi)
   refine offI (ldI c4 rfl knv (idx_loadA (enc := Cnt.cells) (s := 4) sco (fun r => cnt_len r) (by decide) hi (fun pv => ?_)))
   refine qAl fun H5 p5 e5 S5 c5 l5 => ?_
   refine qStA c5 rfl rfl rfl fun H6 S6 c6 l6 => ?_
   have T6 : SameX [] H H6 := (T4.newB S5 (by simp)).newB S6 (by simp; have := T4.1; omega)
   have hG6 : PowAt H6 := T6.get hG (by simp)
   have c46 : H6[p1]? = some (.cells (talCells t cv nv) true 0) := S6.get (S5.get c4 (by simp)) (by simp; omega)
   generalize hc : t.counts[k] = c at c6 f1 f2 f3 f4 ⊢
   have m1 := itoaB_len c.gate
   have m2 := itoaB_len c.man
   have m3 := itoaB_len c.num
   have m4 := itoaB_len c.err
   obtain ⟨A,hA⟩ : ∃ A,A = (headB t ++ t.changes.flatMap changeB) ++ (t.counts.take k).flatMap countB := ⟨_,rfl⟩
   rw [← hA] at hbc ⊢
   refine ⟨[p5],catC (u := A) (v := wCount ++ 32 :: wGate ++ [61]) (by simp; omega) ?_⟩
   refine offI (ldI c6 rfl rfl ⟨by simp [ptrBlk,RdOk],offI (ldI c6 rfl rfl ⟨by simp [ptrBlk,RdOk],offI (ldI c6 rfl rfl ⟨by simp [ptrBlk,RdOk],offI (ldI c6 rfl rfl ⟨by simp [ptrBlk,RdOk],?_⟩)⟩)⟩)⟩)
   refine good31 hJ hG6 (by omega) ⟨fun _ _ => rfl,catC (by simp; omega) (catC (v := 32 :: wMan ++ [61]) (by simp; omega) ?_)⟩
   refine good31 hJ hG6 (by omega) ⟨fun _ _ => rfl,catC (by simp; omega) (catC (v := 32 :: wNumber ++ [61]) (by simp; omega) ?_)⟩
   refine good31 hJ hG6 (by omega) ⟨fun _ _ => rfl,catC (by simp; omega) (catC (v := 32 :: wErr ++ [61]) (by simp; omega) ?_)⟩
   refine good31 hJ hG6 (by omega) ⟨fun _ _ => rfl,catC (by simp; omega) (catC (v := [10]) (by simp; omega) (addI (by omega) ?_))⟩
   refine ⟨k + 1,by dsimp only; omega,.inl ⟨by omega,T6,by omega,c46,ds4,q1,?_,by show vint _ = vint _; congr 1⟩⟩
   show strV _ = strV _
   subst hA
   rw [List.take_add_one,List.getElem?_eq_getElem hi,hc,Option.toList_some,List.flatMap_append,← List.append_assoc]
   simp only [List.flatMap_cons,List.flatMap_nil,List.append_nil]
   rw [← count_is c]
   simp [List.append_assoc]
  ·have hke : k = t.counts.length := by omega
   subst hke
   rw [List.take_length] at hbc ⊢
   refine catC (u := headB t ++ t.changes.flatMap changeB ++ t.counts.flatMap countB) (v := wTallied ++ [10]) (by
    have : (wTallied ++ [10]).length = 8 := rfl
    omega) ?_
   rw [ds4]
   refine retX (X := []) ok (Nat.le_refl _) T4 (by simp) (by simp [unk,strV]) (by simp [pack,VOk,AOk,LOk,strV]) ?_
   have : headB t ++ t.changes.flatMap changeB ++ t.counts.flatMap countB ++ (wTallied ++ [10]) = writeB t := by
    simp [writeB,lineB,joinR]
   rw [this]
   exact hk2
end
end Go.Proofs.YtlladcglhjlbpaaGreatDoor
namespace Go.Proofs.YtlladcglhjlbpaaGreatDoor
open Go.Conc Go.Proofs.Tryz
set_option maxRecDepth 100000
set_option maxHeartbeats 4000000
set_option linter.unusedVariables false
section
variable {main : Bool} {J : JT} {n0 : Nat} {h : List AObj} {K : Value → List AObj → Prop}
theorem at11 : prog.funcs[11]? = some f11 := by kernel_rfl
theorem body11 : f11.body = some (codeOf f11) := by kernel_rfl
def pl11 : Plans := [(6,true,.take 0 (.take 1 (.take 3 (.take 7 (.take 8 (.take 9 (.alt 2 false (.alt 4 false (.alt 5 false (.take 6 (.last 10 false (.take 11 (.take 12 (.fin))))) (.last 10 false (.last 5 false (.take 6 (.take 11 (.take 12 (.fin))))))) (.last 10 false (.last 4 false (.last 5 false (.take 6 (.take 11 (.take 12 (.fin)))))))) (.alt 4 false (.alt 2 false (.alt 5 false (.take 6 (.last 10 false (.take 11 (.take 12 (.fin))))) (.last 10 false (.last 5 false (.take 6 (.take 11 (.take 12 (.fin))))))) (.alt 5 false (.alt 2 false (.take 6 (.last 10 false (.take 11 (.take 12 (.fin))))) (.last 10 false (.last 2 false (.take 6 (.take 11 (.take 12 (.fin))))))) (.last 10 false (.alt 2 false (.last 5 false (.take 6 (.take 11 (.take 12 (.fin))))) (.last 5 false (.last 2 false (.take 6 (.take 11 (.take 12 (.fin)))))))))) (.last 10 false (.alt 2 false (.last 4 false (.last 5 false (.take 6 (.take 11 (.take 12 (.fin)))))) (.last 4 false (.alt 2 false (.last 5 false (.take 6 (.take 11 (.take 12 (.fin))))) (.last 5 false (.last 2 false (.take 6 (.take 11 (.take 12 (.fin)))))))))))))))))),
 (8,true,.take 0 (.take 1 (.take 3 (.take 4 (.take 5 (.alt 2 false (.last 6 false (.take 7 (.take 8 (.fin)))) (.last 6 false (.last 2 false (.take 7 (.take 8 (.fin))))))))))),
 (9,true,.take 0 (.take 1 (.take 3 (.take 7 (.take 8 (.alt 2 false (.alt 4 false (.alt 5 false (.take 6 (.last 9 false (.take 10 (.take 11 (.fin))))) (.last 9 false (.last 5 false (.take 6 (.take 10 (.take 11 (.fin))))))) (.last 9 false (.last 4 false (.last 5 false (.take 6 (.take 10 (.take 11 (.fin)))))))) (.alt 4 false (.alt 2 false (.alt 5 false (.take 6 (.last 9 false (.take 10 (.take 11 (.fin))))) (.last 9 false (.last 5 false (.take 6 (.take 10 (.take 11 (.fin))))))) (.alt 5 false (.alt 2 false (.take 6 (.last 9 false (.take 10 (.take 11 (.fin))))) (.last 9 false (.last 2 false (.take 6 (.take 10 (.take 11 (.fin))))))) (.last 9 false (.alt 2 false (.last 5 false (.take 6 (.take 10 (.take 11 (.fin))))) (.last 5 false (.last 2 false (.take 6 (.take 10 (.take 11 (.fin)))))))))) (.last 9 false (.alt 2 false (.last 4 false (.last 5 false (.take 6 (.take 10 (.take 11 (.fin)))))) (.last 4 false (.alt 2 false (.last 5 false (.take 6 (.take 10 (.take 11 (.fin))))) (.last 5 false (.last 2 false (.take 6 (.take 10 (.take 11 (.fin)))))))))))))))))]
def ct11 : Cuts := .go
theorem pok11 : plansOk prog pl11 (codeOf f11) = true := by kernel_rfl
theorem e11 {a0 a1 a2 a3 : Value} : W prog J 57 h.length 11 (codeOf f11) (RG.mk (regs [a0,a1,a2,a3]) []) h (RetQ prog [.tmp 8] h.length K) =
(aLenStr a0 fun v1 =>
aBin prog .eql 3 v1 (vint 0) fun v2 =>
cnd v2
((((1 * 1 : Nat) ≤ 16777216 ∧ (1 : Nat) ≤ 16777216 ∧ List.length [(Value.int .u8 0)] = 1) ∧ aFill (zrep [(Value.int .u8 0)] 1) [(0,1,a3)] fun c3 =>
aNewS 1 c3 h fun v4 h5 =>
aB2S v4 h5 fun v6 =>
retL h.length K [] [v6] h5))
(aLenStr a0 fun v7 =>
Good prog J 33 [a1,v7] h fun v8 h9 =>
Good prog J 33 [a2,(vint 3)] h9 fun v10 h11 =>
aBin prog .eql 3 v10 (vint 0) fun v12 =>
cnd v12
(aBin prog .add 3 v8 (vint 1) fun v13 =>
(aSlStr a0 none (some v8) fun v14 =>
((((1 * 1 : Nat) ≤ 16777216 ∧ (1 : Nat) ≤ 16777216 ∧ List.length [(Value.int .u8 0)] = 1) ∧ aFill (zrep [(Value.int .u8 0)] 1) [(0,1,a3)] fun c15 =>
aNewS 1 c15 h11 fun v16 h17 =>
(aB2S v16 h17 fun v18 =>
aBin prog .add 9 v14 v18 fun v19 =>
aSlStr a0 (some v13) none fun v20 =>
aBin prog .add 9 v19 v20 fun v21 =>
retL h.length K [] [v21] h17) ∧ (aSlStr a0 (some v13) none fun v22 =>
aB2S v16 h17 fun v23 =>
aBin prog .add 9 v14 v23 fun v24 =>
aBin prog .add 9 v24 v22 fun v25 =>
retL h.length K [] [v25] h17))) ∧ (aSlStr a0 (some v13) none fun v26 =>
(((1 * 1 : Nat) ≤ 16777216 ∧ (1 : Nat) ≤ 16777216 ∧ List.length [(Value.int .u8 0)] = 1) ∧ aFill (zrep [(Value.int .u8 0)] 1) [(0,1,a3)] fun c27 =>
aNewS 1 c27 h11 fun v28 h29 =>
aB2S v28 h29 fun v30 =>
aBin prog .add 9 v14 v30 fun v31 =>
aBin prog .add 9 v31 v26 fun v32 =>
retL h.length K [] [v32] h29))) ∧ ((((1 * 1 : Nat) ≤ 16777216 ∧ (1 : Nat) ≤ 16777216 ∧ List.length [(Value.int .u8 0)] = 1) ∧ aFill (zrep [(Value.int .u8 0)] 1) [(0,1,a3)] fun c33 =>
aNewS 1 c33 h11 fun v34 h35 =>
(aSlStr a0 none (some v8) fun v36 =>
(aB2S v34 h35 fun v37 =>
aBin prog .add 9 v36 v37 fun v38 =>
aSlStr a0 (some v13) none fun v39 =>
aBin prog .add 9 v38 v39 fun v40 =>
retL h.length K [] [v40] h35) ∧ (aSlStr a0 (some v13) none fun v41 =>
aB2S v34 h35 fun v42 =>
aBin prog .add 9 v36 v42 fun v43 =>
aBin prog .add 9 v43 v41 fun v44 =>
retL h.length K [] [v44] h35)) ∧ (aB2S v34 h35 fun v45 =>
(aSlStr a0 none (some v8) fun v46 =>
aBin prog .add 9 v46 v45 fun v47 =>
aSlStr a0 (some v13) none fun v48 =>
aBin prog .add 9 v47 v48 fun v49 =>
retL h.length K [] [v49] h35) ∧ (aSlStr a0 (some v13) none fun v50 =>
aSlStr a0 none (some v8) fun v51 =>
aBin prog .add 9 v51 v45 fun v52 =>
aBin prog .add 9 v52 v50 fun v53 =>
retL h.length K [] [v53] h35)) ∧ (aSlStr a0 (some v13) none fun v54 =>
(aSlStr a0 none (some v8) fun v55 =>
aB2S v34 h35 fun v56 =>
aBin prog .add 9 v55 v56 fun v57 =>
aBin prog .add 9 v57 v54 fun v58 =>
retL h.length K [] [v58] h35) ∧ (aB2S v34 h35 fun v59 =>
aSlStr a0 none (some v8) fun v60 =>
aBin prog .add 9 v60 v59 fun v61 =>
aBin prog .add 9 v61 v54 fun v62 =>
retL h.length K [] [v62] h35)))) ∧ (aSlStr a0 (some v13) none fun v63 =>
(aSlStr a0 none (some v8) fun v64 =>
(((1 * 1 : Nat) ≤ 16777216 ∧ (1 : Nat) ≤ 16777216 ∧ List.length [(Value.int .u8 0)] = 1) ∧ aFill (zrep [(Value.int .u8 0)] 1) [(0,1,a3)] fun c65 =>
aNewS 1 c65 h11 fun v66 h67 =>
aB2S v66 h67 fun v68 =>
aBin prog .add 9 v64 v68 fun v69 =>
aBin prog .add 9 v69 v63 fun v70 =>
retL h.length K [] [v70] h67)) ∧ ((((1 * 1 : Nat) ≤ 16777216 ∧ (1 : Nat) ≤ 16777216 ∧ List.length [(Value.int .u8 0)] = 1) ∧ aFill (zrep [(Value.int .u8 0)] 1) [(0,1,a3)] fun c71 =>
aNewS 1 c71 h11 fun v72 h73 =>
(aSlStr a0 none (some v8) fun v74 =>
aB2S v72 h73 fun v75 =>
aBin prog .add 9 v74 v75 fun v76 =>
aBin prog .add 9 v76 v63 fun v77 =>
retL h.length K [] [v77] h73) ∧ (aB2S v72 h73 fun v78 =>
aSlStr a0 none (some v8) fun v79 =>
aBin prog .add 9 v79 v78 fun v80 =>
aBin prog .add 9 v80 v63 fun v81 =>
retL h.length K [] [v81] h73)))))
(aBin prog .eql 3 v10 (vint 1) fun v82 =>
cnd v82
(aBin prog .add 3 v8 (vint 1) fun v83 =>
(aSlStr a0 none (some v8) fun v84 =>
aSlStr a0 (some v83) none fun v85 =>
aBin prog .add 9 v84 v85 fun v86 =>
retL h.length K [] [v86] h11) ∧ (aSlStr a0 (some v83) none fun v87 =>
aSlStr a0 none (some v8) fun v88 =>
aBin prog .add 9 v88 v87 fun v89 =>
retL h.length K [] [v89] h11))
((aSlStr a0 none (some v8) fun v90 =>
((((1 * 1 : Nat) ≤ 16777216 ∧ (1 : Nat) ≤ 16777216 ∧ List.length [(Value.int .u8 0)] = 1) ∧ aFill (zrep [(Value.int .u8 0)] 1) [(0,1,a3)] fun c91 =>
aNewS 1 c91 h11 fun v92 h93 =>
(aB2S v92 h93 fun v94 =>
aBin prog .add 9 v90 v94 fun v95 =>
aSlStr a0 (some v8) none fun v96 =>
aBin prog .add 9 v95 v96 fun v97 =>
retL h.length K [] [v97] h93) ∧ (aSlStr a0 (some v8) none fun v98 =>
aB2S v92 h93 fun v99 =>
aBin prog .add 9 v90 v99 fun v100 =>
aBin prog .add 9 v100 v98 fun v101 =>
retL h.length K [] [v101] h93))) ∧ (aSlStr a0 (some v8) none fun v102 =>
(((1 * 1 : Nat) ≤ 16777216 ∧ (1 : Nat) ≤ 16777216 ∧ List.length [(Value.int .u8 0)] = 1) ∧ aFill (zrep [(Value.int .u8 0)] 1) [(0,1,a3)] fun c103 =>
aNewS 1 c103 h11 fun v104 h105 =>
aB2S v104 h105 fun v106 =>
aBin prog .add 9 v90 v106 fun v107 =>
aBin prog .add 9 v107 v102 fun v108 =>
retL h.length K [] [v108] h105))) ∧ ((((1 * 1 : Nat) ≤ 16777216 ∧ (1 : Nat) ≤ 16777216 ∧ List.length [(Value.int .u8 0)] = 1) ∧ aFill (zrep [(Value.int .u8 0)] 1) [(0,1,a3)] fun c109 =>
aNewS 1 c109 h11 fun v110 h111 =>
(aSlStr a0 none (some v8) fun v112 =>
(aB2S v110 h111 fun v113 =>
aBin prog .add 9 v112 v113 fun v114 =>
aSlStr a0 (some v8) none fun v115 =>
aBin prog .add 9 v114 v115 fun v116 =>
retL h.length K [] [v116] h111) ∧ (aSlStr a0 (some v8) none fun v117 =>
aB2S v110 h111 fun v118 =>
aBin prog .add 9 v112 v118 fun v119 =>
aBin prog .add 9 v119 v117 fun v120 =>
retL h.length K [] [v120] h111)) ∧ (aB2S v110 h111 fun v121 =>
(aSlStr a0 none (some v8) fun v122 =>
aBin prog .add 9 v122 v121 fun v123 =>
aSlStr a0 (some v8) none fun v124 =>
aBin prog .add 9 v123 v124 fun v125 =>
retL h.length K [] [v125] h111) ∧ (aSlStr a0 (some v8) none fun v126 =>
aSlStr a0 none (some v8) fun v127 =>
aBin prog .add 9 v127 v121 fun v128 =>
aBin prog .add 9 v128 v126 fun v129 =>
retL h.length K [] [v129] h111)) ∧ (aSlStr a0 (some v8) none fun v130 =>
(aSlStr a0 none (some v8) fun v131 =>
aB2S v110 h111 fun v132 =>
aBin prog .add 9 v131 v132 fun v133 =>
aBin prog .add 9 v133 v130 fun v134 =>
retL h.length K [] [v134] h111) ∧ (aB2S v110 h111 fun v135 =>
aSlStr a0 none (some v8) fun v136 =>
aBin prog .add 9 v136 v135 fun v137 =>
aBin prog .add 9 v137 v130 fun v138 =>
retL h.length K [] [v138] h111)))) ∧ (aSlStr a0 (some v8) none fun v139 =>
(aSlStr a0 none (some v8) fun v140 =>
(((1 * 1 : Nat) ≤ 16777216 ∧ (1 : Nat) ≤ 16777216 ∧ List.length [(Value.int .u8 0)] = 1) ∧ aFill (zrep [(Value.int .u8 0)] 1) [(0,1,a3)] fun c141 =>
aNewS 1 c141 h11 fun v142 h143 =>
aB2S v142 h143 fun v144 =>
aBin prog .add 9 v140 v144 fun v145 =>
aBin prog .add 9 v145 v139 fun v146 =>
retL h.length K [] [v146] h143)) ∧ ((((1 * 1 : Nat) ≤ 16777216 ∧ (1 : Nat) ≤ 16777216 ∧ List.length [(Value.int .u8 0)] = 1) ∧ aFill (zrep [(Value.int .u8 0)] 1) [(0,1,a3)] fun c147 =>
aNewS 1 c147 h11 fun v148 h149 =>
(aSlStr a0 none (some v8) fun v150 =>
aB2S v148 h149 fun v151 =>
aBin prog .add 9 v150 v151 fun v152 =>
aBin prog .add 9 v152 v139 fun v153 =>
retL h.length K [] [v153] h149) ∧ (aB2S v148 h149 fun v154 =>
aSlStr a0 none (some v8) fun v155 =>
aBin prog .add 9 v155 v154 fun v156 =>
aBin prog .add 9 v156 v139 fun v157 =>
retL h.length K [] [v157] h149)))))))) := top_eq pok11 ct11 (by kernel_rfl)
theorem g11 (hJ : Closed prog main J) {a0 a1 a2 a3 : Value} (hs : heapOk h → W prog J 57 h.length 11 (codeOf f11) (RG.mk (regs [a0,a1,a2,a3]) []) h (RetQ prog [.tmp 8] h.length K)) : Good prog J 11 [a0,a1,a2,a3] h K :=
 good_of_W hJ mixed at11 body11 (by kernel_rfl) (Nat.le_of_ble_eq_true rfl) hs
theorem at33 : prog.funcs[33]? = some f33 := by kernel_rfl
theorem body33 : f33.body = some (codeOf f33) := by kernel_rfl
def pl33 : Plans := []
def ct33 : Cuts := .go
theorem pok33 : plansOk prog pl33 (codeOf f33) = true := by kernel_rfl
theorem e33 {a0 a1 : Value} : W prog J 16 h.length 33 (codeOf f33) (RG.mk (regs [a0,a1]) []) h (RetQ prog [.tmp 4] h.length K) =
(aBin prog .lss 3 a1 (vint 1) fun v1 =>
cnd v1
(retL h.length K [] [(vint 0)] h)
(aBin prog .rem 3 a0 a1 fun v2 =>
aBin prog .lss 3 v2 (vint 0) fun v3 =>
cnd v3
(aBin prog .add 3 v2 a1 fun v4 =>
retL h.length K [] [v4] h)
(retL h.length K [] [v2] h))) := top_eq pok33 ct33 (by kernel_rfl)
theorem g33 (hJ : Closed prog main J) {a0 a1 : Value} (hs : heapOk h → W prog J 16 h.length 33 (codeOf f33) (RG.mk (regs [a0,a1]) []) h (RetQ prog [.tmp 4] h.length K)) : Good prog J 33 [a0,a1] h K :=
 good_of_W hJ mixed at33 body33 (by kernel_rfl) (Nat.le_of_ble_eq_true rfl) hs
end
end Go.Proofs.YtlladcglhjlbpaaGreatDoor
namespace Go.Proofs.YtlladcglhjlbpaaGreatDoor
open Go.Conc Go.Proofs.Tryz
set_option maxRecDepth 100000
section
variable {main : Bool} {J : JT} {h H : List AObj} {K : Value → List AObj → Prop} {KV : Value → Prop}
theorem remL {t : TypeId} {x n : Int} (hn : 1 ≤ n) (hK : ∀ r : Int,-n < r → r < n → KV (vint r)) : aBin prog .rem t (vint x) (vint n) KV := by
 simp only [aBin,aInt,true_and]
 exact ⟨by omega,hK _ (Int.lt_tmod_of_pos x (by omega)) (Int.tmod_lt_of_pos x (by omega))⟩
theorem good33 (hJ : Closed prog main J) {x n : Int} (hn : 1 ≤ n ∧ n ≤ 1000000) (hK : ∀ r : Int,0 ≤ r → r < n → K (vint r) H) : Good prog J 33 [vint x,vint n] H K := by
 refine g33 hJ fun ok => ?_
 rw [e33]
 refine lssI (cndI (fun h1 => absurd h1 (by omega)) fun _ => ?_)
 refine remL (by omega) fun r b2 b1 => lssI (cndI (fun h2 => ?_) fun h2 => retL_same (by simp [unk]) (hK r (by omega) b1))
 exact addI (by omega) (retL_same (by simp [unk]) (hK _ (by omega) (by omega)))
theorem slToL {w : List UInt8} {k : Int} (hk : 0 ≤ k ∧ k ≤ w.length) (hK : ∀ u : List UInt8,(u.length : Int) = k → KV (strV u)) : aSlStr (strV w) none (some (vint k)) KV := by
 obtain ⟨n,rfl⟩ := Int.eq_ofNat_of_zero_le hk.1
 exact slTo' (by omega) (hK _ (by simp; omega))
theorem slFrL {w : List UInt8} {k : Int} (hk : 0 ≤ k ∧ k ≤ w.length) (hK : ∀ u : List UInt8,(u.length : Int) = w.length - k → KV (strV u)) : aSlStr (strV w) (some (vint k)) none KV := by
 obtain ⟨n,rfl⟩ := Int.eq_ofNat_of_zero_le hk.1
 exact slFr' (by omega) (hK _ (by simp; omega))
theorem catL {t : TypeId} {u v : List UInt8} (hl : u.length + v.length ≤ 1000000) (hK : ∀ x : List UInt8,x.length = u.length + v.length → KV (strV x)) : aBin prog .add t (strV u) (strV v) KV :=
 catC hl (hK _ (by simp))
theorem newBL {b : UInt8} {KB : Value → List AObj → Prop} (hK : ∀ H' p,SameX [] H H' → H'[p]? = some (.cells [.int .u8 b.toNat] true 0) → KB (.slice (some ⟨p,0,none⟩) 1 1) H') :
  ((1 * 1 : Nat) ≤ 16777216 ∧ (1 : Nat) ≤ 16777216 ∧ List.length [(Value.int .u8 0)] = 1) ∧ aFill (zrep [(Value.int .u8 0)] 1) [(0,1,.int .u8 b.toNat)] fun c3 => aNewS 1 c3 H KB :=
 ⟨by decide,fillO (l := [.int .u8 b.toNat]) rfl rfl rfl (by decide) (fillI (qNew fun H1 p1 e1 S1 c1 l1 => hK H1 p1 S1 c1))⟩
theorem b2sL {b : UInt8} {p : Nat} (hp : H[p]? = some (.cells [.int .u8 b.toNat] true 0)) (hK : ∀ u : List UInt8,u.length = 1 → KV (strV u)) : aB2S (.slice (some ⟨p,0,none⟩) 1 1) H KV := b2sS (bs := [b]) hp (by simp) rfl (hK [b] rfl)
set_option maxHeartbeats 2000000 in
theorem good11 (hJ : Closed prog main J) {w : List UInt8} {b : UInt8} {at_ how : Int} (hw : w.length ≤ 1000) (hK : ∀ (u : List UInt8) H',u.length ≤ w.length + 1 → SameX [] H H' → K (strV u) H') : Good prog J 11 [strV w,vint at_,vint how,.int .u8 b.toNat] H K := by
 refine g11 hJ fun ok => ?_
 rw [e11]
 have fin : ∀ {u : List UInt8} {H' : List AObj},u.length ≤ w.length + 1 → SameX [] H H' → retL H.length K [] [strV u] H' := fun h1 h2 => retL_same (by simp [unk,strV]) (hK _ _ h1 h2)
 refine lenStr (eqlI (cndI (fun h0 => newBL fun H1 p1 S1 c1 => b2sL c1 fun u hu => fin (by omega) S1) fun h0 => ?_))
 refine lenStr (good33 hJ (by omega) fun k k0 k1 => good33 hJ (by decide) fun m m0 m1 => eqlI (cndI (fun _ => addI (by omega) ?_) fun _ => eqlI (cndI (fun _ => addI (by omega) ?_) fun _ => ?_)))
 all_goals
  repeat' first
   | exact fin (by omega) (by first | assumption | exact SameX.refl)
   | refine slToL (by omega) fun _ _ => ?_
   | refine slFrL (by omega) fun _ _ => ?_
   | refine catL (by omega) fun _ _ => ?_
   | refine newBL fun _ _ _ _ => ?_
   | refine b2sL (by assumption) fun _ _ => ?_
   | refine ⟨?_,?_⟩
end
abbrev TW := Tal × Value × Value
def twC (x : TW) : List Value := talCells x.1 x.2.1 x.2.2
theorem w12t {z0 z1 z2 z3 z4 z5 a0 a1 a2 a3 a4 a5 b0 b1 b2 b3 b4 b5 : Value} :
 wrAt (wrAt (zrep [z0,z1,z2,z3,z4,z5] 2) 0 [a0,a1,a2,a3,a4,a5]) 6 [b0,b1,b2,b3,b4,b5] = [a0,a1,a2,a3,a4,a5,b0,b1,b2,b3,b4,b5] := by kernel_rfl
theorem z12t {z0 z1 z2 z3 z4 z5 : Value} : (zrep [z0,z1,z2,z3,z4,z5] 2).length = 12 := by kernel_rfl
theorem fill12t {x y : TW} {KL : List Value → Prop} (hx : (twC x).all one = true) (hy : (twC y).all one = true) (hk : KL (twC x ++ twC y)) :
  aFill (zrep [vint 0,vint 0,vint 0,.slice none 0 0,vint 0,.slice none 0 0] 2) [(0,6,.agg ⟨twC x⟩),(6,6,.agg ⟨twC y⟩)] KL := by
 unfold aFill
 refine ⟨rfl,hx,by rw [z12t]; decide,?_⟩
 unfold aFill
 refine ⟨rfl,hy,by rw [wrAt_length,z12t]; decide,?_⟩
 unfold aFill
 show KL (wrAt (wrAt _ 0 (twC x)) 6 (twC y))
 unfold twC talCells
 rw [w12t]
 exact hk
def txtB (t : Tal) : List UInt8 := if talErr t ≠ 0 then [] else writeB t
theorem readTal_few (s : List UInt8) : (readTal s).changes.length < 1000000 ∧ (readTal s).counts.length < 1000000 := by
 by_cases h : (readE s).2 = 0
 ·obtain ⟨t,_,hte,hrt,_⟩ := readE_ok h
  have f := talErr_fine hte
  have h1 := f.few
  have h2 := f.chl
  have h3 := f.gates
  rw [hrt]
  exact ⟨by omega,by omega⟩
 ·have : readTal s = tal0 := if_neg h
  rw [this]
  exact ⟨by decide,by decide⟩
section
variable {main : Bool} {J : JT} {h : List AObj} {K : Value → List AObj → Prop} {n0 : Nat} {m : Int}
theorem txt_both (P : Value → Prop) {t : Tal} (k : P (.tuple ⟨[strV (txtB t),vint (talErr t)]⟩)) : (talErr t ≠ 0 → P (.tuple ⟨[strV [],vint (talErr t)]⟩)) ∧ (talErr t = 0 → P (.tuple ⟨[strV (writeB t),vint 0]⟩)) := by
 refine ⟨fun h => ?_,fun h => ?_⟩
 ·unfold txtB at k
  rw [if_pos h] at k
  exact k
 ·unfold txtB at k
  rw [if_neg (by simpa using h),h] at k
  exact k
theorem addR' {t : TypeId} {x : Value} {a b : Int} {KV : Value → Prop} (hx : x = vint a) (h : -9223372036854775808 ≤ a + b ∧ a + b < 9223372036854775808) (hk : KV (vint (a + b))) : aBin prog .add t x (vint b) KV := by
 subst hx
 exact addI h hk
theorem ttx_5 (hJ : Closed prog main J) {H0 : List AObj} {F : RG} {L : List (List UInt8)} {v : Value} (hm : MaxAt H0 m) (hE : ErrAt H0) (ds : F.ds = []) (r14 : F.r 14 = v) (r20 : F.r 20 = vint (0 : Nat)) (sl : Sli H0 v 1 L.length (L.map strV)) (hL : L.length ≤ 100)
  (fin : ∀ H,Good prog J 6 [] H fun v h' => retL n0 K [] [v] h') :
  Sem J 130 n0 3 (subC yp5 (codeOf f3)) F H0 (contX pl3 prog J 130 n0 3 ct3 yp5 (codeOf f3) [] (RetQ prog [.tmp 12] n0 K)) := by
 refine l3_5 hJ (fun i : Nat => L.length - i) (fun i f H => SameX [] H0 H ∧ i ≤ L.length ∧ f.ds = [] ∧ f.r 14 = v ∧ f.r 20 = vint (i : Nat)) ?_ (s := 0) (.inl ⟨SameX.refl,Nat.zero_le _,ds,r14,r20⟩)
 rintro i f H ⟨S,hi,ds,r14,r20⟩ ok' hn'
 rw [s3_5]
 simp only [ds,r14,r20]
 have slH := S.sli sl (by simp)
 refine lenI slH (lssI (cndI (fun hlt => ?_) fun hge => fin _))
 obtain ⟨u,hu⟩ : ∃ u,L[i]? = some u := ⟨_,List.getElem?_eq_getElem (by omega)⟩
 have hix : (L.map strV)[((i : Nat) : Int).toNat]? = some (strV u) := by
  rw [Int.toNat_natCast,List.getElem?_map,hu]
  rfl
 have hfew := readTal_few u
 refine idx_load (x := strV u) slH ⟨by omega,by omega⟩ hix fun _ => ?_
 refine good12 hJ (max_keep hm S (by simp)) (err_keep hE S (by simp)) fun H1 cv1 nv1 S1 T1 => ext30 (ext31 (ext32 ?_))
 refine qAl fun H2 p2 e2 S2 c2 l2 => qStA (c := talCells (readTal u) cv1 nv1) c2 rfl rfl (tal_one T1) fun H3 S3 c3 l3 => ?_
 have S13 : SameX [] H1 H3 := S2.thru S3 (by simp; omega)
 have S03 := (S.trans S1).trans S13
 refine idx_load (x := strV u) (S03.sli sl (by simp)) ⟨by omega,by omega⟩ hix fun _ => ?_
 refine good13 hJ fun H4 cv2 nv2 S4 T2 => ext30 (ext31 (ext32 ?_))
 refine qAl fun H5 p5 e5 S5 c5 l5 => qStA (c := talCells (readTal u) cv2 nv2) c5 rfl rfl (tal_one T2) fun H6 S6 c6 l6 => ?_
 have S46 : SameX [] H4 H6 := S5.thru S6 (by simp; omega)
 have S36 := S4.trans S46
 have T1' := talAt_same T1 (S13.trans S36) (by simp)
 have T2' := talAt_same T2 S46 (by simp)
 refine neqI (cndI (fun hx => absurd rfl hx) fun _ => neqI (cndI (fun hx => absurd rfl hx) fun _ => ?_))
 refine load_part (b := p2) (c := talCells (readTal u) cv1 nv1) (S36.get c3 (by simp)) (by rw [cs_val]; omega) rfl (talAt_kc T1') (load_part (b := p5) (c := talCells (readTal u) cv2 nv2) c6 (by rw [cs_val]; omega) rfl (talAt_kc T2') ?_)
 refine good14 hJ T1' T2' hfew (notI (hold.2 ?_))
 rw [s3_6]
 show cnd (.bool false) _ _
 refine cnd_false.2 (addR' r20 (by omega) ⟨i + 1,by dsimp only; omega,.inl ⟨S03.trans S36,by omega,ds,r14,by show vint _ = vint _; congr 1⟩⟩)
theorem good9t (hJ : Closed prog main J) {H : List AObj} (hG : PowAt H) {v cv nv : Value} {t : Tal} (ht : TalAt H v t cv nv) (hK : K (.tuple ⟨[strV (txtB t),vint (talErr t)]⟩) H) : Good prog J 9 [v] H K :=
 let ⟨a,b⟩ := txt_both (fun v => K v H) hK
 good9 hJ hG ht a b
theorem good10t (hJ : Closed prog main J) {H : List AObj} (hG : PowAt H) {v cv nv : Value} {t : Tal} (ht : TalAt H v t cv nv) (hK : K (.tuple ⟨[strV (txtB t),vint (talErr t)]⟩) H) : Good prog J 10 [v] H K :=
 let ⟨a,b⟩ := txt_both (fun v => K v H) hK
 good10 hJ hG ht a b
def TxS (H0 G : List AObj) (p14 : Nat) (text : List UInt8) (L : List (List UInt8)) (v : Value) : Prop :=
 (L = [text] ∧ v = .slice (some ⟨p14,0,none⟩) 1 1) ∨ ∃ q,OwnX G 1 (L.map strV) L.length v (some q) ∧ H0.length ≤ q
theorem TxS.keep {H0 G G' : List AObj} {p14 : Nat} {text : List UInt8} {L : List (List UInt8)} {v : Value} (a : TxS H0 G p14 text L v) (S : SameX [] G G') : TxS H0 G' p14 text L v :=
 a.imp id fun ⟨q,O,hq⟩ => ⟨q,ownX_keep O S (by simp),hq⟩
theorem TxS.sli {H0 G : List AObj} {p14 : Nat} {text : List UInt8} {L : List (List UInt8)} {v : Value} (a : TxS H0 G p14 text L v) (c : G[p14]? = some (.cells [strV text] true 0)) : Sli G v 1 L.length (L.map strV) := by
 rcases a with ⟨rfl,rfl⟩ | ⟨q,O,_⟩
 ·exact sli_new c rfl rfl
 ·exact ownX_sli O
theorem TxS.app {H0 G : List AObj} {p14 : Nat} {text u : List UInt8} {L : List (List UInt8)} {v y : Value} (a : TxS H0 G p14 text L v) (S : SameX [] H0 G) (c : G[p14]? = some (.cells [strV text] true 0)) (hl : L.length < 1000) (hy : Sli G y 1 1 [strV u])
  (hk : ∀ v' G',SameX [] H0 G' → TxS H0 G' p14 text (L ++ [u]) v' → K v' G') : aApp 1 v y G K := by
 rcases a with ⟨rfl,rfl⟩ | ⟨q,O,hq⟩
 ·refine app_copy (cs := [strV text]) c (by simp) rfl (by omega) (by omega) hy (by decide) ?_
  have e : (G ++ [AObj.cells ((([strV text] : List Value).drop 0).take (1 * 1) ++ [strV u]) true 1])[G.length]? = some (.cells [strV text,strV u] true 1) := by simp
  refine hk _ _ S.app (.inr ⟨G.length,⟨rfl,rfl,.inr ⟨G.length,fz,1,rfl,rfl,e,.inl ⟨rfl,rfl⟩⟩⟩,S.1⟩)
 ·refine ownX_more O (by omega) hl hy fun v' G' p' e' O' S' => hk v' G' (S.thru S' (by simp; omega)) (.inr ⟨p',by simpa using O',by have := S.1; omega⟩)
theorem ttx_4 {H0 G : List AObj} {F : RG} {p14 : Nat} {text u : List UInt8} {L : List (List UInt8)} {v : Value} {i : Nat} {I : Nat → RG → List AObj → Prop} (S : SameX [] H0 G) (a : TxS H0 G p14 text L v) (c : G[p14]? = some (.cells [strV text] true 0)) (hl : L.length < 1000) (hi : i < 3)
  (ds : F.ds = []) (r3 : ∀ {F'} v' G',F'.ds = [] → F'.r 3 = F.r 3 → F'.r 4 = F.r 4 → F'.r 5 = F.r 5 → F'.r 13 = F.r 13 → F'.r 14 = v' → F'.r 15 = vint ((i + 1 : Nat) : Int) → SameX [] H0 G' → TxS H0 G' p14 text (L ++ [u]) v' → I (i + 1) F' G') (r14 : F.r 14 = v) (r15 : F.r 15 = vint (i : Nat)) (r18 : F.r 18 = strV u) (r76 : F.r 76 = .bool false) :
  W prog J 130 n0 3 (subC yp29 (codeOf f3)) F G (contX pl3 prog J 130 n0 3 ct3 yp29 (codeOf f3) [Nx n0 (fun i : Nat => 3 - i) I i] (RetQ prog [.tmp 12] n0 K)) := by
 rw [s3_4]
 simp only [r14,r15,r18,r76]
 refine cnd_false.2 ⟨⟨by decide,by decide,rfl⟩,fillO (l := [strV u]) rfl rfl rfl (by decide) (fillI (qNew fun G1 p1 e1 S1 c1 l1 => ⟨⟨rfl,by decide,by decide,by decide⟩,?_⟩))⟩
 have c1 : G1[p1]? = some (.cells [strV u] true 0) := c1
 refine (a.keep S1).app (S.trans S1) (S1.get c (by simp)) hl (sli_new (n := 1) (c := 1) c1 rfl rfl) fun v' G' S' a' => addI (by omega) ⟨i + 1,by dsimp only; omega,.inl (r3 v' G' ds rfl rfl rfl rfl rfl rfl S' a')⟩
theorem ttx_3 (hJ : Closed prog main J) {H0 : List AObj} {F : RG} {x y : TW} {text : List UInt8} {p13 p14 : Nat} {at_ how : Int} {b : UInt8} (hG : PowAt H0) (hm : MaxAt H0 m) (hE : ErrAt H0) (ds : F.ds = []) (r3 : F.r 3 = vint at_) (r4 : F.r 4 = vint how) (r5 : F.r 5 = .int .u8 b.toNat)
  (r13 : F.r 13 = .slice (some ⟨p13,0,none⟩) 2 2) (r14 : F.r 14 = .slice (some ⟨p14,0,none⟩) 1 1) (r15 : F.r 15 = vint (0 : Nat)) (c13 : H0[p13]? = some (.cells (twC x ++ twC y) true 0)) (c14 : H0[p14]? = some (.cells [strV text] true 0))
  (hx : TalAt H0 (.agg ⟨twC x⟩) x.1 x.2.1 x.2.2) (hy : TalAt H0 (.agg ⟨twC y⟩) y.1 y.2.1 y.2.2) (hyl : (txtB y.1).length ≤ 1000)
  (fin : ∀ H,Good prog J 6 [] H fun v h' => retL n0 K [] [v] h') :
  Sem J 130 n0 3 (subC yp1 (codeOf f3)) F H0 (contX pl3 prog J 130 n0 3 ct3 yp1 (codeOf f3) [] (RetQ prog [.tmp 12] n0 K)) := by
 refine l3_3 hJ (fun i : Nat => 3 - i) (fun i f G => ∃ L v,SameX [] H0 G ∧ i ≤ 2 ∧ f.ds = [] ∧ f.r 3 = vint at_ ∧ f.r 4 = vint how ∧ f.r 5 = .int .u8 b.toNat ∧ f.r 13 = .slice (some ⟨p13,0,none⟩) 2 2 ∧ f.r 14 = v ∧ f.r 15 = vint (i : Nat) ∧ L.length = i + 1 ∧ TxS H0 G p14 text L v ∧ ∀ u,L[2]? = some u → u.length ≤ 1000) ?_ (s := 0)
  (.inl ⟨[text],_,SameX.refl,by omega,ds,r3,r4,r5,r13,r14,r15,rfl,.inl ⟨rfl,rfl⟩,fun u hu => by cases hu⟩)
 rintro i f G ⟨L,v,S,hi,ds,r3,r4,r5,r13,r14,r15,hL,a,hL2⟩ ok' hn'
 rw [s3_3]
 simp only [r3,r4,r5,r13,r14,r15]
 have cG := S.get c14 (by simp)
 refine lenSl (lssI (cndI (fun hlt => ?_) fun hge => ?_))
 ·have hi2 : i < 2 := by omega
  obtain ⟨z,hz,hzx,hzl⟩ : ∃ z : TW,((∀ {G' : List AObj} {KI : Value → Value → Prop},SameX [] H0 G' → (∀ p,KI p (.agg ⟨twC z⟩)) → aIdx 6 (.slice (some ⟨p13,0,none⟩) 2 2) (vint (i : Nat)) fun v => aLoad true 6 v G' (KI v))) ∧ TalAt H0 (.agg ⟨twC z⟩) z.1 z.2.1 z.2.2 ∧ (i = 1 → (txtB z.1).length ≤ 1000) := by
   rcases (by omega : i = 0 ∨ i = 1) with rfl | rfl
   ·exact ⟨x,fun S' hk => idxI ⟨by decide,by decide⟩ (load_part (c := twC x) (S'.get c13 (by simp)) (by simp [twC,talCells]) rfl (talAt_kc hx) (hk _)),hx,fun h => by cases h⟩
   ·exact ⟨y,fun S' hk => idxI ⟨by decide,by decide⟩ (load_part (c := twC y) (S'.get c13 (by simp)) (by simp [twC,talCells]) rfl (talAt_kc hy) (hk _)),hy,fun _ => hyl⟩
  refine hz S fun _ => good9t hJ (pow_keep hG S (by simp)) (talAt_same hzx S (by simp)) (ext0 (ext1 ?_))
  refine hz S fun _ => good10t hJ (pow_keep hG S (by simp)) (talAt_same hzx S (by simp)) (ext0 (ext1 ?_))
  refine neS (cndI (fun h => absurd rfl h) fun _ => neqI (hold.2 ?_))
  refine ttx_4 (u := txtB z.1) S a cG (by omega) (by omega) ds (fun v' G' d3 d4 d5 d6 d7 d8 d9 S' a' => ⟨L ++ [txtB z.1],v',S',by omega,d3,d4.trans r3,d5.trans r4,d6.trans r5,d7.trans r13,d8,d9,by simp; omega,a',fun u hu => ?_⟩) r14 r15 rfl (by
   show Value.bool (decide (talErr z.1 ≠ talErr z.1)) = _
   simp)
  rcases (by omega : i = 0 ∨ i = 1) with rfl | rfl
  ·rw [List.getElem?_eq_none (by simp; omega)] at hu
   cases hu
  ·rw [List.getElem?_append_right (by omega),hL] at hu
   have : txtB z.1 = u := by simpa using hu
   rw [← this]
   exact hzl rfl
 ·have hi2 : i = 2 := by omega
  subst hi2
  obtain ⟨u,hu⟩ : ∃ u,L[2]? = some u := ⟨_,List.getElem?_eq_getElem (by omega)⟩
  refine idx_load (x := strV u) (a.sli cG) ⟨by decide,by omega⟩ (by show (L.map strV)[2]? = _; rw [List.getElem?_map,hu]; rfl) fun _ => ?_
  refine good11 hJ (hL2 u hu) fun w G1 hw S1 => ?_
  refine ⟨⟨by decide,by decide,rfl⟩,fillO (l := [strV w]) rfl rfl rfl (by decide) (fillI (qNew fun G2 p2 e2 S2 c2 l2 => ⟨⟨rfl,by decide,by decide,by decide⟩,?_⟩))⟩
  have c2 : G2[p2]? = some (.cells [strV w] true 0) := c2
  have S02 := (S.trans S1).trans S2
  refine ((a.keep S1).keep S2).app S02 (S02.get c14 (by simp)) (by omega) (sli_new (n := 1) (c := 1) c2 rfl rfl) fun v' G' S' a' => ?_
  exact ttx_5 hJ (max_keep hm S' (by simp)) (err_keep hE S' (by simp)) ds rfl rfl (a'.sli (S'.get c14 (by simp))) (by simp; omega) fin
theorem walk3 (hJ : Closed prog main J) (hT : TagFree J) (hG : PowAt h) (hm : MaxAt h m) (hE : ErrAt h) {tv ct nt nv : Value} {t : Tal} {ns : List Int} {text : List UInt8} {at_ how : Int} {b : UInt8} (ht : TalAt h tv t ct nt) (sn : Sli h nv 1 ns.length (ns.map vint)) (hln : ns.length < 4611686018427387904) (hK : ∀ h',K (.bool true) h') :
  W prog J 130 h.length 3 (codeOf f3) (RG.mk (regs [tv,strV text,nv,vint at_,vint how,.int .u8 b.toNat]) []) h (RetQ prog [.tmp 12] h.length K) := by
 rw [e3,ht.val]
 have fin : ∀ {n0 : Nat} (H : List AObj),Good prog J 6 [] H fun v h' => retL n0 K [] [v] h' := fun H => good6 hJ (retL_same (by simp [unk]) (hK _))
 refine qBox (tal_one ht) fun H1 p1 e1 S1 c1 l1 => ?_
 have T1 : TalAt H1 (.agg ⟨talCells t ct nt⟩) t ct nt := ⟨rfl,S1.sli ht.ch (by simp),S1.sli ht.co (by simp)⟩
 have kt := talAt_kc T1
 have lp1 := lt_of_get c1
 refine load_part (c := talCells t ct nt) c1 (by rw [cs_val]; omega) rfl kt (good5 hJ T1 ?_)
 have go : ∀ {F : RG} {q : Bool},F.ds = [] → F.r 1 = strV text → F.r 2 = nv → F.r 3 = vint at_ → F.r 4 = vint how → F.r 5 = .int .u8 b.toNat → F.r 6 = ptr p1 0 → F.r 38 = .bool q → _ := fun {F q} ds r1 r2 r3 r4 r5 r6 r38 => show W prog J 130 h.length 3 (subC [1,0,1] (codeOf f3)) F H1 (contX pl3 prog J 130 h.length 3 ct3 [1,0,1] (codeOf f3) [] (RetQ prog [.tmp 12] h.length K)) by
  rw [s3_1]
  simp only [ds,r1,r2,r6,r38]
  cases q with
  | true => exact cnd_true.2 (fin _)
  | false =>
   have sbq : ∀ {H' : List AObj},SameX [] H1 H' → SameB (some [p1]) H1 H' := fun S y hy => by
    have : y = p1 := by simpa using hy
    subst this
    exact S.2 _ lp1 (by simp)
   have leaf : ∀ {F' : RG} {Hn : List AObj} {p13 p14 : Nat} {t2 : Tal} {cv2 co2 : Value},F'.ds = [] → F'.r 3 = vint at_ → F'.r 4 = vint how → F'.r 5 = .int .u8 b.toNat → F'.r 13 = .slice (some ⟨p13,0,none⟩) 2 2 → F'.r 14 = .slice (some ⟨p14,0,none⟩) 1 1 → SameX [] H1 Hn → TalOk 5 5 t2 → TalAt Hn (.agg ⟨talCells t2 cv2 co2⟩) t2 cv2 co2 → Hn[p13]? = some (.cells (twC (t,ct,nt) ++ twC (t2,cv2,co2)) true 0) → Hn[p14]? = some (.cells [strV text] true 0) → _ :=
    fun {F' Hn p13 p14 t2 cv2 co2} ds r3 r4 r5 r13 r14 Sn Tk T2 c13 c14 => show W prog J 130 h.length 3 (subC [1,1,1] (codeOf f3)) F' Hn (contX pl3 prog J 130 h.length 3 ct3 [1,1,1] (codeOf f3) [] (RetQ prog [.tmp 12] h.length K)) by
     rw [s3_2]
     have S0n := S1.trans Sn
     have herr := Tk.err (by omega) (by omega)
     have hyl : (txtB t2).length ≤ 1000 := by
      unfold txtB
      rw [if_neg (by simpa using herr)]
      have := write_short Tk
      omega
     exact ttx_3 (x := (t,ct,nt)) (y := (t2,cv2,co2)) hJ (pow_keep hG S0n (by simp)) (max_keep hm S0n (by simp)) (err_keep hE S0n (by simp)) ds r3 r4 r5 r13 r14 rfl c13 c14 (talAt_same T1 Sn (by simp)) T2 hyl fin
   have one1 := tal_one T1
   refine cnd_false.2 ⟨[p1],load_part (c := talCells t ct nt) c1 (by rw [cs_val]; omega) rfl kt ⟨by simp [RdOk,ptr,ptrBlk],?_,?_⟩⟩
   ·refine newX hJ (S1.sli sn (by simp)) hln fun H2 a2 => ⟨sbq a2.pre,?_,?_⟩
    ·refine talX hJ a2 (by omega) (by omega) (by omega) fun t2 cv2 co2 H3 Tk S3 a3 T3 => ⟨sbq a3.pre,?_,?_⟩
     ·refine ⟨⟨by decide,by decide,rfl⟩,fill12t (x := (t,ct,nt)) (y := (t2,cv2,co2)) one1 (tal_one T3) (qNew fun H4 p4 e4 S4 c4 l4 => ?_)⟩
      refine ⟨⟨by decide,by decide,rfl⟩,fillO (l := [strV text]) rfl rfl rfl (by decide) (fillI (qNew fun H5 p5 e5 S5 c5 l5 => ⟨sbq ((a3.pre.trans S4).trans S5),hold.2 ?_⟩))⟩
      exact leaf ds r3 r4 r5 rfl rfl ((a3.pre.trans S4).trans S5) Tk (talAt_same T3 (S4.trans S5) (by simp)) (S5.get c4 (by simp)) c5
     ·refine ⟨⟨by decide,by decide,rfl⟩,fillO (l := [strV text]) rfl rfl rfl (by decide) (fillI (qNew fun H4 p4 e4 S4 c4 l4 => ⟨sbq (a3.pre.trans S4),?_⟩))⟩
      refine ⟨⟨by decide,by decide,rfl⟩,fill12t (x := (t,ct,nt)) (y := (t2,cv2,co2)) one1 (tal_one T3) (qNew fun H5 p5 e5 S5 c5 l5 => hold.2 ?_)⟩
      exact leaf ds r3 r4 r5 rfl rfl ((a3.pre.trans S4).trans S5) Tk (talAt_same T3 (S4.trans S5) (by simp)) c5 (S5.get c4 (by simp))
    ·refine ⟨⟨by decide,by decide,rfl⟩,fillO (l := [strV text]) rfl rfl rfl (by decide) (fillI (qNew fun H3 p3 e3 S3 c3 l3 => ⟨sbq (a2.pre.trans S3),?_⟩))⟩
     have a3 : HX H1 H3 ns 0 := a2.same S3 (by simp)
     refine talX hJ a3 (by omega) (by omega) (by omega) fun t2 cv2 co2 H4 Tk S4 a4 T4 => ⟨sbq a4.pre,?_⟩
     refine ⟨⟨by decide,by decide,rfl⟩,fill12t (x := (t,ct,nt)) (y := (t2,cv2,co2)) one1 (tal_one T4) (qNew fun H5 p5 e5 S5 c5 l5 => hold.2 ?_)⟩
     exact leaf ds r3 r4 r5 rfl rfl (a4.pre.trans S5) Tk (talAt_same T4 S5 (by simp)) c5 (S5.get (S4.get c3 (by have := a2.lt; simp; omega)) (by simp))
   ·refine ⟨⟨by decide,by decide,rfl⟩,fillO (l := [strV text]) rfl rfl rfl (by decide) (fillI (qNew fun H2 p2 e2 S2 c2 l2 => ⟨sbq S2,?_⟩))⟩
    refine newX hJ ((S1.trans S2).sli sn (by simp)) hln fun H3 a3 => ⟨sbq (S2.trans a3.pre),?_⟩
    refine talX hJ a3 (by omega) (by omega) (by omega) fun t2 cv2 co2 H4 Tk S4 a4 T4 => ⟨sbq (S2.trans a4.pre),?_⟩
    refine ⟨⟨by decide,by decide,rfl⟩,fill12t (x := (t,ct,nt)) (y := (t2,cv2,co2)) one1 (tal_one T4) (qNew fun H5 p5 e5 S5 c5 l5 => hold.2 ?_)⟩
    exact leaf ds r3 r4 r5 rfl rfl ((S2.trans a4.pre).trans S5) Tk (talAt_same T4 S5 (by simp)) c5 (S5.get (a4.pre.get c2 (by simp)) (by simp))
 refine cndI (fun h1 => hold.2 (go rfl rfl rfl rfl rfl rfl rfl rfl)) fun h1 => lenStr (gtrI (cndI (fun h2 => lenStr (leqI (hold.2 (go rfl rfl rfl rfl rfl rfl rfl rfl)))) fun h2 => hold.2 (go rfl rfl rfl rfl rfl rfl rfl rfl)))
end
end Go.Proofs.YtlladcglhjlbpaaGreatDoor
namespace Go.Proofs.YtlladcglhjlbpaaGreatDoor
open Go.Conc Go.RowKit
def idEnv : Env := ⟨fun b => b,fun _ => 0⟩
def startFt (w : World) : Foot := ⟨fun b => b < w.heap.size,fun _ => False,0⟩
def startFC (w : World) : Frm := ⟨fun b => w.heap[b]?,fun _ => False⟩
def Fine (n : Nat) (v : Value) : Prop := VOk n v ∧ one v = true ∧ ren idEnv v = v
open Classical in
noncomputable def clean (n : Nat) (v : Value) : Value := if Fine n v then v else unk
noncomputable def absO (n : Nat) : Obj → AObj
 | .cells c _ _ => .cells (c.toList.map (clean n)) false 0
 | _ => .dead
noncomputable def absH (w : World) : List AObj := w.heap.toList.map (absO w.heap.size)
section
variable {w w' : World} {n : Nat}
theorem clean_fine {v : Value} (h : Fine n v) : clean n v = v := by simp [clean,h]
theorem absH_len : (absH w).length = w.heap.size := by simp [absH]
theorem absH_get {b : Nat} : (absH w)[b]? = (w.heap[b]?).map (absO w.heap.size) := by simp [absH]
theorem absO_wrt (x : Obj) : (absO n x).wrt = false := by cases x <;> rfl
theorem start_rel (w : World) : HRel idEnv (absH w) (startFC w) w (startFt w) where
 obj := fun b o hb => by
  rw [absH_get] at hb
  obtain ⟨x,hx,rfl⟩ := Option.map_eq_some_iff.1 hb
  show ORel (absH w).length idEnv b (absO w.heap.size x) w.heap[b]?
  rw [absH_len,hx]
  cases x with
  | cells c ty fr =>
   refine ⟨fun i v hv => ?_,fun _ => by simp,fun hz => absurd rfl hz,fun e => by cases e⟩
   rw [List.getElem?_map] at hv
   obtain ⟨u,hu,rfl⟩ := Option.map_eq_some_iff.1 hv
   by_cases hf : Fine w.heap.size u
   ·rw [clean_fine hf]
    exact .inr ⟨hf.1,hf.2.1,by rw [hf.2.2]; simpa using hu⟩
   ·exact .inl ⟨by simp [clean,hf],rfl⟩
  | _ => trivial
 inj := fun b b' o o' _ _ _ _ _ e => e
 rd := fun b o hb _ => by
  have : b < (absH w).length := (List.getElem?_eq_some_iff.1 hb).1
  rw [absH_len] at this
  exact this
 wr := fun b o hb hw => by
  rw [absH_get] at hb
  obtain ⟨x,hx,rfl⟩ := Option.map_eq_some_iff.1 hb
  rw [absO_wrt] at hw
  cases hw
 lt := fun b hb => hb
 sub := fun b hb => hb.elim
 kept := fun b o hb => by
  refine ⟨hb,?_,fun a oa ha hw => ?_⟩
  ·exact (Array.getElem?_eq_some_iff.1 hb).1
  ·rw [absH_get] at ha
   obtain ⟨x,hx,rfl⟩ := Option.map_eq_some_iff.1 ha
   rw [absO_wrt] at hw
   cases hw
 keptW := fun b hb => hb.elim
 tag := fun b x hb => by
  rw [absH_get] at hb
  obtain ⟨y,_,e⟩ := Option.map_eq_some_iff.1 hb
  cases y <;> cases e
theorem absH_cell {b o : Nat} {v : Value} (hc : w.cell? ⟨b,o,none⟩ = some v) (hf : Fine w.heap.size v) : ∃ c,(absH w)[b]? = some (.cells c false 0) ∧ c[o]? = some v := by
 unfold World.cell? at hc
 simp only at hc
 split at hc
 ·rename_i c ty fr hx
  refine ⟨c.toList.map (clean w.heap.size),by rw [absH_get,hx]; rfl,?_⟩
  have hc' : c[o]? = some v := by simpa using hc
  rw [List.getElem?_map,Array.getElem?_toList,hc']
  simp [clean_fine hf]
 ·cases hc
theorem below_of {ρ' : Env} {h' : List AObj} {ft' : Foot} (H : HRel ρ' h' (startFC w) w' ft') (B : Base w w') : Below w.heap.size w w' :=
 ⟨B.os,B.tape,B.output,B.size,fun k hk => by
  have : (startFC w).ob k = some w.heap[k] := by simp [startFC,hk]
  rw [(H.kept k _ this).1,Array.getElem?_eq_getElem hk]⟩
end
end Go.Proofs.YtlladcglhjlbpaaGreatDoor
namespace Go.Proofs.YtlladcglhjlbpaaGreatDoor
open Go.Conc
open Go.ConcN (sumTo upd sumTo_upd upd_ne upd_same)
def EndsQ (P : Program) (Post : Value → World → Prop) (m : Machine) (t : Trace) : Prop :=
 ∃ N last o w' t',runNT P (N + 1) m t = (.ended o w',t') ∧ runN P N m = .next last ∧ step P last = .ended o w' ∧ Go.Conc.Good P Post last o w' t' ∧ last.gs.size = 1
theorem EndsQ.next {P : Program} {Post : Value → World → Prop} {m m' : Machine} {t : Trace} {ops : Array MemOp} (hs : stepT P m = (.next m',ops)) (h : EndsQ P Post m' (t ++ ops)) : EndsQ P Post m t := by
 obtain ⟨n,last,o,w,t',h1,h2,h3,h4,h5⟩ := h
 exact ⟨n + 1,last,o,w,t',by rw [runNT_succ_next hs]; exact h1,by rw [runN_succ_next hs]; exact h2,h3,h4,h5⟩
def J0 (P : Program) (W0 : World) (Post : Value → World → Prop) (g : Goroutine) (w : World) (ft : Foot) : Prop :=
 ∀ (gs : Array Goroutine) (w₁ : World) (sl : Option (Nat × Nat)) (t : Trace) (q : Nat → Nat),(∀ b,ft.rd b → b < w₁.heap.size) → (∀ b,ft.wr b → ft.rd b) → RelyW ft w w₁ → Base W0 w₁ → gs[0]? = some g → Leavers P t gs q → Past (fun _ => False) w₁.heap.size t → gs.size = 1 →
  EndsQ P Post (crowd gs w₁ sl) t
section
variable {P : Program} {W0 : World} {Post : Value → World → Prop} {g : Goroutine} {w w₁ : World} {ft : Foot} {ρ : Env} {h : List AObj} {FC : Frm} {f : RG} {a : Act} {b : FB} {K : Value → List AObj → Prop} {n0 : Nat}
theorem J0.both (hrun : g.status = .running)
  (h : ∀ w₁,RelyW ft w w₁ → Base W0 w₁ → (∃ g' w' es,stepG P true g w₁ = .go g' w' es ∧ g'.status = .running ∧ GuarW ft w₁ w' es ∧ J0 P W0 Post g' w' (ft.ext w₁.heap.size w'.heap.size)) ∨
   ∃ v es,stepG P true g w₁ = .ended (.done v) w₁ es ∧ (∀ e ∈ es,EvOk ft e) ∧ Post v w₁) : J0 P W0 Post g w ft := by
 intro gs w₁ sl t q hbd hsub hrel hbase h0 hL hP hone
 have haw : ∀ g ∈ gs,awake g := by
  intro x hx
  obtain ⟨i,hi,rfl⟩ := Array.mem_iff_getElem.1 hx
  rcases Nat.eq_zero_or_pos i with rfl | hpos
  ·have : gs[0] = g := by simpa [Array.getElem?_eq_getElem hi] using h0
   rw [this]; exact awake_of (.inl hrun)
  ·exact awake_of ((hL.old i _ hpos (Array.getElem?_eq_getElem hi)).status.elim .inl fun x => .inr (.inr x))
 obtain ⟨i,x,d,sl',hi,hg,hst⟩ := crowd_pick (P := P) (w := w₁) (sl := sl) haw ⟨0,g,h0,hrun⟩
 rcases Nat.eq_zero_or_pos i with rfl | hpos
 ·obtain rfl : x = g := by rw [h0] at hi; exact (Option.some.inj hi).symm
  rcases h (w₁.at d) (hrel.trans (relyW_at ft w₁ d)) ⟨hbase.tape,hbase.os,hbase.output,hbase.size⟩ with ⟨g',w',es,hgo,hrun',hgu,hJ⟩ | ⟨v,es,hend,hes,hpost⟩
  ·have hrunT := runT_crowd_go (P := P) (sl := sl') (i := 0) hi (show stepG P (0 == 0) x (w₁.at d) = _ from hgo)
   have hsz : ((gs.map (woken P x g' w')).setIfInBounds 0 g').size = gs.size := by simp
   have hlt : 0 < gs.size := (Array.getElem?_eq_some_iff.1 h0).1
   have hw' : w₁.heap.size ≤ w'.heap.size := hgu.size
   refine EndsQ.next (hst.trans hrunT) ?_
   refine hJ _ w' sl' _ q (fun b hb => ?_) (fun b hb => ?_) (RelyW.refl _ _) ⟨hgu.tape.trans hbase.tape,hgu.os.trans hbase.os,hgu.output.trans hbase.output,Nat.le_trans hbase.size hgu.size⟩ (by simp [hlt]) ⟨fun j y hj hy => ?_,fun j hj => ?_⟩ ?_ (by rw [hsz]; exact hone)
   ·rcases hb with hb | hb
    ·exact Nat.lt_of_lt_of_le (hbd b hb) hw'
    ·exact hb.2
   ·rcases hb with hb | hb
    ·exact .inl (hsub b hb)
    ·exact .inr hb
   ·have hne : 0 ≠ j := by omega
    rw [Array.getElem?_setIfInBounds_ne hne,Array.getElem?_map] at hy
    obtain ⟨z,hz,rfl⟩ := Option.map_eq_some_iff.1 hy
    have hq := hL.old j z hj hz
    rw [woken_quitsD hq,Deaf_other t (by omega) _ (fun op hop => mem_g hop)]
    exact hq
   ·rw [Deaf_other t (g' := 0) (by simp at hj; omega) _ (fun op hop => mem_g hop)]
    exact hL.above j (by simpa using hj)
   ·exact (hP.mono hw').own fun e he => evL_of (hgu.evs e he) fun b hb => Nat.lt_of_lt_of_le (hbd b hb) hw'
  ·have hrunT := runT_many_ended (P := P) (sl := sl') (i := 0) hi (show stepG P (0 == 0) x (w₁.at d) = _ from hend)
   have hP' := hP.own (fn := x.frame.fn) (pos := x.frame.place) fun e he => evL_of (hes e he) hbd
   refine ⟨0,crowd gs w₁ sl,.done v,w₁.at d,_,by simp only [runNT,hst.trans hrunT],rfl,by simp [step,hst.trans hrunT],⟨v,rfl,hpost,hP'.clean,hP'.over,⟨fun y hy => ?_,rfl⟩,fun j y hy hj => ?_⟩,hone⟩
   ·obtain ⟨j,hj⟩ := List.mem_iff_getElem?.1 hy
    rw [List.getElem?_drop] at hj
    exact ⟨_,(hL.old (1 + j) y (by omega) (by simpa [crowd] using hj)).leaves⟩
   ·have hq := hL.old j y (by omega) hy
    refine ⟨q j,?_⟩
    have e : (t ++ MemOp.ofEvents 0 x.frame.fn x.frame.place es).deaf j (t ++ MemOp.ofEvents 0 x.frame.fn x.frame.place es).size = Deaf t j :=
     Deaf_other t (g := j) (g' := 0) (by omega) _ (fun op hop => mem_g hop)
    rw [e]
    exact hq.hears _
 ·have hlt : i < gs.size := (Array.getElem?_eq_some_iff.1 hi).1
  omega
theorem J0.closed (P : Program) (W0 : World) (Post : Value → World → Prop) : Closed P true (J0 P W0 Post) where
 rely := fun h hr gs w₂ sl t q hbd hsub hrel hbase h0 hL hP hone => h gs w₂ sl t q hbd hsub (hr.trans hrel) hbase h0 hL hP hone
 step := fun hrun h => J0.both hrun fun w₁ h₁ _ => by
  obtain ⟨g',w',es,a,b,c,d⟩ := h w₁ h₁
  exact .inl ⟨g',w',es,a,b,c,d⟩
theorem leave_top0 {fn : Func} (hk : b.kind = .normal) (hf : P.funcs[b.fn]? = some fn) (hin : P.inits.idxOf? b.fn = none)
  (hc : ∀ v h' ρ' w' ft' cv,K v h' → HRel ρ' h' FC w' ft' → Env.upto n0 ρ ρ' → n0 ≤ h'.length → VRel h'.length ρ' v cv → Base W0 w' → Post cv w') :
  ∀ (ds : List Nat) (h : List AObj) (w : World) (ft : Foot) (a : Act) (fr : Frame),fr.fn = b.fn → fr.kind = .normal → fr.mode = .returning → fr.tmps = a.tmps → fr.defers = ds.map (fun d => { target := .collected (ρ.blk d),args := #[] }) → RegRel h.length ρ f.r a.tmps → HRel ρ h FC w ft → n0 ≤ h.length →
   takeW ds h (fun h => resW P fn.results.toList f.r h fun vs => K (pack vs) h ∨ ∃ σ h' v,GC n0 σ h h' ∧ pack vs = sub σ v ∧ VOk h'.length v ∧ K v h') → J0 P W0 Post (G fr []) w ft
 | [],h,w,ft,a,fr,e1,e2,e3,e4,e5,hr,H,hn,hq => by
  obtain ⟨fn',tmps,todo,defers,mode,kind,ro⟩ := fr
  simp only at e1 e2 e3 e4 e5
  subst e1 e2 e3 e4 e5
  refine J0.both rfl fun w₁ h₁ hbase => .inr ?_
  have H₁ := H.rely h₁
  have hrun : RunsTo P (EvOk ft) (results fn a.tmps) w₁ fun cv w' => w' = w₁ ∧ ∃ vs,cv = ren ρ (pack vs) ∧ (∀ v ∈ vs,VOk h.length v) ∧ (K (pack vs) h ∨ ∃ σ h' v,GC n0 σ h h' ∧ pack vs = sub σ v ∧ VOk h'.length v ∧ K v h') := by
   unfold results
   have : (fn.results.mapM (resF a.tmps)) = List.toArray <$> fn.results.toList.mapM (resF a.tmps) := by
    rw [Array.mapM_eq_mapM_toList]
   show RunsTo P (EvOk ft) (do
    let vs ← fn.results.mapM (resF a.tmps)
    pure (if h : vs.size = 1 then vs[0] else .tuple vs)) w₁ _
   rw [this]
   refine RunsTo.bind (RunsTo.map (res_run (n := 0) H₁ hr fn.results.toList hq fun vs hvs hok => RunsTo.pure ⟨rfl,vs,?_,hok,hvs⟩))
   exact pack_ren vs
  obtain ⟨cv,w',es,hr',he,rfl,vs,rfl,hvok,hvs⟩ := hrun #[] (by simp)
  have hes : ∀ e ∈ seen P b.fn es,EvOk ft e := fun e hm => he e (mem_seen hm)
  refine ⟨ren ρ (pack vs),seen P b.fn es,?_,hes,?_⟩
  ·simp only [G,stepG,unwind,List.map_nil,hf,hr']
   simp [doReturn,GStep.after,hin]
  ·rcases hvs with hK | ⟨σ,h',v,g,hp,hok,hK⟩
   ·exact hc _ h _ w' ft _ hK H₁ (Env.upto_refl _ _) hn (.inr ⟨pack_ok hvok,rfl⟩) hbase
   ·rw [hp,ren_sub]
    exact hc v h' _ w' ft _ hK (g.rel H₁) g.upto g.le (.inr ⟨hok,rfl⟩) hbase
 | d :: ds,h,w,ft,a,fr,e1,e2,e3,e4,e5,hr,H,hn,hq => by
  obtain ⟨fn',tmps,todo,defers,mode,kind,ro⟩ := fr
  simp only at e1 e2 e3 e4 e5
  subst e1 e2 e3 e4 e5
  obtain ⟨hd,hq⟩ := hq
  refine (J0.closed P W0 Post).step rfl fun w₁ h₁ => ?_
  have H₁ := H.rely h₁
  obtain ⟨cv,w',es,hr',he,rfl,H',hst,hsz⟩ := take_run (P := P) H₁ hd (Q := fun l w' => l = [] ∧ HRel ρ (h.set d .dead) FC w' ft ∧ Stays ft w₁ w' ∧ w'.heap.size = w₁.heap.size) (fun w' a1 a2 a3 => ⟨rfl,a1,a2,a3⟩) #[] (by simp)
  have hes : ∀ e ∈ seen P b.fn es,EvOk ft e := fun e hm => he e (mem_seen hm)
  refine ⟨G { fn := b.fn,tmps := a.tmps,todo := todo,defers := ds.map (fun d => { target := .collected (ρ.blk d),args := #[] }),mode := .returning,kind := .normal,roundOf := ro } [],w',seen P b.fn es,?_,rfl,hst.guar hes,?_⟩
  ·simp only [G,stepG,unwind,List.map_cons,hr']
   simp [GStep.after]
  ·rw [hsz,Foot.ext_self]
   exact leave_top0 hk hf hin hc ds _ w' ft a _ rfl rfl rfl rfl rfl (by rw [List.length_set]; exact hr) H' (by rw [List.length_set]; exact hn) hq
theorem top_of_W0 (hm : P.follows .mixedOrders = true) {g : FuncId} {fn : Func} (hf : P.funcs[g]? = some fn) {c : Code} (hb : fn.body = some c) (hin : P.inits.idxOf? g = none) {args : List Value} {cargs : Array Value} (ha : args.length ≤ fn.ntmps) (hl : cargs.size = args.length)
  (hr : ∀ i : Nat,VRel h.length ρ (args.getD i unk) (cargs.toList.getD i undef)) (H : HRel ρ h FC w ft)
  (hs : W P (J0 P W0 Post) fn.ntmps h.length g c ⟨regs args,[]⟩ h (RetQ P fn.results.toList h.length K))
  (hc : ∀ v h' ρ' w' ft' cv,K v h' → HRel ρ' h' FC w' ft' → Env.upto h.length ρ ρ' → h.length ≤ h'.length → VRel h'.length ρ' v cv → Base W0 w' → Post cv w') : J0 P W0 Post (G (Frame.enter P g cargs .normal) []) w ft := by
 have hJ := J0.closed P W0 Post
 obtain ⟨cargs⟩ := cargs
 simp only at hl hr
 have he : Frame.enter P g ⟨cargs⟩ .normal = FB.at ⟨g,.normal,none,[]⟩ ⟨⟨cargs⟩ ++ Array.replicate (fn.ntmps - cargs.length) undef,[]⟩ [.code c] := by
  simp [Frame.enter,FB.at,hf,hb]
 rw [he]
 have A : ActRel h.length ρ fn.ntmps ⟨regs args,[]⟩ ⟨⟨cargs⟩ ++ Array.replicate (fn.ntmps - cargs.length) undef,[]⟩ := by
  refine ⟨fun t => ?_,by simp at hl ⊢; omega,rfl,by simp⟩
  have := hr t
  have ht : ((⟨cargs⟩ : Array Value) ++ Array.replicate (fn.ntmps - cargs.length) undef).getD t undef = cargs.getD t undef := by
   rw [Array.getD_eq_getD_getElem?,List.getD_eq_getElem?_getD]
   by_cases hx : t < cargs.length
   ·rw [Array.getElem?_append_left (by simpa using hx)]
    simp
   ·rw [Array.getElem?_append_right (by simp; omega),List.getElem?_eq_none (by omega)]
    simp only [Array.getElem?_replicate]
    split <;> rfl
  rw [ht]
  exact this
 have last : ∀ f' h' ρ' w' ft' a' todo,RetQ P fn.results.toList h.length K .ret f' h' → ActRel h'.length ρ' fn.ntmps f' a' → HRel ρ' h' FC w' ft' → Env.upto h.length ρ ρ' → h.length ≤ h'.length →
   J0 P W0 Post (G { (FB.at ⟨g,.normal,none,[]⟩ a' todo) with mode := .returning } []) w' ft' := by
  intro f' h' ρ' w' ft' a' todo q A' H' hu hl
  exact leave_top0 (b := ⟨g,.normal,none,[]⟩) (f := f') (n0 := h.length) (ρ := ρ') rfl hf hin (fun v h2 ρ2 w2 ft2 cv k H2 u2 l2 v2 => hc v h2 ρ2 w2 ft2 cv k H2 (Env.upto_trans hu u2) l2 v2) f'.ds h' w' ft' a' _ rfl rfl rfl rfl ((List.append_nil _).trans A'.defers) A'.regs H' hl q
 refine W_sound hJ hm c hs ⟨g,.normal,none,[]⟩ _ [] [] (fun jump a w ft => jump = some .ret ∧ ∀ todo,J0 P W0 Post (G { (FB.at ⟨g,.normal,none,[]⟩ a todo) with mode := .returning } []) w ft) ρ FC w ft rfl (by simp) ?_ A H (Nat.le_refl _) ?_
 ·rintro jump a w ft todo ⟨rfl,hj⟩ hh
  rcases hh with ⟨_,k,rfl⟩ | ⟨id,k,e,_⟩ | ⟨e,_⟩
  ·exact hJ.ctrl rfl rfl (fun w => by simp [G,stepG,stepG.exec,FB.at]) (hj (.code .ret :: k))
  ·cases e
  ·cases e
 ·intro e f' h' ρ' w' ft' a' q A' H' hu hl
  cases e with
  | normal => exact hJ.ctrl rfl rfl (fun w => by simp [G,stepG,stepG.exec,FB.at]) (last f' h' ρ' w' ft' a' [] q A' H' hu hl)
  | ret => exact ⟨rfl,fun todo => last f' h' ρ' w' ft' a' todo q A' H' hu hl⟩
  | exit id => exact q.elim
  | goto l => exact q.elim
  | panic l => exact q.elim
  | outgrown => exact q.elim
theorem run_of_J0 {g : Goroutine} {w : World} {ft : Foot} (h : J0 P W0 Post g w ft) (hb : ∀ b,ft.rd b → b < w.heap.size) (hs : ∀ b,ft.wr b → ft.rd b) (hw : W0 = w) : EndsQ P Post (solo g w) #[] := by
 rw [solo_eq_crowd]
 exact h #[g] w none #[] (fun _ => 0) hb hs (RelyW.refl _ _) (by subst hw; exact ⟨rfl,rfl,rfl,Nat.le_refl _⟩) rfl (leavers_one P g) (past_nil.mono (Nat.zero_le _)) rfl
end
end Go.Proofs.YtlladcglhjlbpaaGreatDoor
namespace Go.Proofs.YtlladcglhjlbpaaGreatDoor
open Go.Conc Go.ChangeShapes Go.WideShapes Go.ChangeAt Go.RowKit Go.Proofs.Tryz
set_option maxRecDepth 100000
theorem own : ownKnob prog.godebug = none := by kernel_rfl
theorem laidOut : laidOutB prog = true := by kernel_rfl
def ArgOk (W : World) (v : Value) : Prop := VOk W.heap.size v ∧ ren idEnv v = v
theorem argOk_int {W : World} {k : IntKind} {n : Int} : ArgOk W (.int k n) := ⟨by simp [VOk],by simp [ren]⟩
section
variable {H : Type} {enc : TypeId × Value → H}
theorem arg_ints {t e : TypeId} (ht : prog.underlying t = some (.slice e)) (he : prog.underlying e = some (.int .i64)) (hc : prog.cellsOf e = 1) {W : World} {base : Nat} {v : Value} {d : DataW H} {ps : List MemPlace}
  (hval : Value.okWide prog W .any base t v) (hd : DataW.Trod enc prog W 0 (fun _ => true) true t v d ps) :
  ∃ zs : List Int,Sli (absH W) v 1 zs.length (zs.map vint) ∧ ArgOk W v ∧ (zs = [] ∨ ∃ es sp,d = .slice es sp ∧ zs.length ≤ es.length + sp.length) := by
 obtain ⟨a0,len,cap,rfl⟩ := okWide_slice ht hval
 obtain ⟨fuel,hf⟩ := hd
 rcases open_ints ht he hc hf with ⟨hcs,hx⟩ | ⟨a,len',cap',zs,hcs,_,hl,hm,hz,hx,hcell,hwz⟩
 ·simp [Value.cells] at hcs
  obtain ⟨rfl,rfl,rfl⟩ := hcs
  exact ⟨[],sli_nil,⟨by simp [VOk],by simp [ren]⟩,.inl rfl⟩
 ·simp [Value.cells] at hcs
  obtain ⟨rfl,rfl,rfl⟩ := hcs
  simp only [Prod.mk.injEq] at hx
  obtain ⟨rfl,rfl⟩ := hx
  simp only [if_true] at hz
  simp only [Value.okWide,ht,Cell.okWide,Cell.ok,World.has] at hval
  obtain ⟨_,_,_,hspot,row,cells,hshape,_⟩ := hval
  obtain ⟨b,o,spot⟩ := a
  simp only at hspot hshape
  subst hspot
  have hb : b < W.heap.size := by
   unfold World.shape? at hshape
   split at hshape
   ·rename_i h
    exact (Array.getElem?_eq_some_iff.1 h).1
   ·cases hshape
  have hlen : (zs.take len).length = len := by simp; omega
  have hcell' : ∀ i,i < zs.length → W.cell? ⟨b,o + i,none⟩ = some (vint (zs.getD i 0)) := by
   intro i hi
   have := hcell i hi
   unfold Addr.add at this
   by_cases h0 : i = 0
   ·subst h0; simpa using this
   ·simpa [h0] using this
  have hmax : cap < fz := by
   simp only [maxLen] at hm
   unfold fz
   omega
  refine ⟨zs.take len,?_,⟨by simp only [VOk,AddrOk]; exact ⟨hb,trivial⟩,?_⟩,.inr ⟨_,_,rfl,?_⟩⟩
  ·refine ⟨some ⟨b,o,none⟩,cap,by rw [hlen],⟨by simp,kn_ints _⟩,.inr ⟨b,o,rfl,?_⟩⟩
   rw [hlen]
   by_cases h0 : len = 0
   ·exact .inl h0
   ·right
    have fine : ∀ n : Int,Fine W.heap.size (vint n) := fun n => ⟨by simp [VOk],rfl,by simp [ren]⟩
    obtain ⟨c,hc1,hc2⟩ := absH_cell (hcell' 0 (by omega)) (fine _)
    refine ⟨c,false,0,hc1,?_⟩
    apply List.ext_getElem?
    intro i
    rw [Nat.mul_one]
    by_cases hi : i < len
    ·obtain ⟨c',hc1',hc2'⟩ := absH_cell (hcell' i (by omega)) (fine _)
     rw [hc1] at hc1'
     cases hc1'
     rw [List.getElem?_take,if_pos hi,List.getElem?_drop,hc2']
     have hzi : i < zs.length := by omega
     simp [hi,hzi]
    ·rw [List.getElem?_take,if_neg hi,List.getElem?_eq_none (by simp; omega)]
  ·have hnf : ¬ fz ≤ cap := by omega
   simp [ren,renAddr,renCap,idEnv,hnf]
  ·simp only [lits,List.length_map,List.length_take,List.length_drop]
   omega
end
theorem quiet_of {P : Program} {m : Machine} (h1 : m.gs.size = 1) (h2 : m.OnlyLeaving P) : m.quiet := by
 refine ⟨?_,h2.2⟩
 unfold Machine.othersDone
 rw [List.drop_of_length_le (by simp [h1])]
 rfl
theorem handed_of_good {a : Assume} {C : Checked} {os : Os} {f : FuncId} {r : Reach} {Pre : World → Array Value → Prop} {Post : World → Array Value → Value → World → Prop}
  (own : ownKnob C.prog.godebug = none) (started : os.Started)
  (witness : ∃ (w : World) (tape : Tape) (i : Input),w.os = os ∧ (w.forCall tape i).Shaped C.prog ∧ i.vars = [] ∧ Input.okWide C.prog (w.forCall tape i) r w.heap.size f i ∧ Pre (w.forCall tape i).memory i.args ∧
   a.holds C.prog (lone (Frame.enter C.prog f i.args .normal) [] (w.forCall tape i)))
  (runs : ∀ (w : World) (tape : Tape) (i : Input),w.os = os → (w.forCall tape i).ShapedOpen C.prog → i.vars = [] → Input.okWide C.prog (w.forCall tape i) r w.heap.size f i → Pre (w.forCall tape i).memory i.args →
   a.holds C.prog (lone (Frame.enter C.prog f i.args .normal) [] (w.forCall tape i)) →
   EndsQ C.prog (fun v w' => Post (w.forCall tape i).blind i.args v w'.blind) (solo (G (Frame.enter C.prog f i.args .normal) []) (w.forCall tape i)) #[]) :
  ReturnsInHanded a C os f r Pre Post := fun enter => by
 obtain ⟨w0,t0,i0,a1,a2,a3,a4,a5,a6⟩ := witness
 refine ⟨enter,own,started,⟨w0,t0,i0,a1,a2,a3,a4,a5,a6,trivial⟩,fun w tape i h => ?_⟩
 obtain ⟨N,last,o,w',t',h1,h2,h3,⟨v,rfl,hp,hrace,hho,hol,heh⟩,hone⟩ := runs w tape i h.1 h.2.1 h.2.2.1 h.2.2.2.1 h.2.2.2.2.1 h.2.2.2.2.2.1
 have h1' : runNT C.prog (N + 1) (Machine.entering C.prog w tape f i) #[] = (.ended (.done v) w',t') := h1
 have hn : runN C.prog (N + 1) (Machine.entering C.prog w tape f i) = .ended (.done v) w' := by rw [← runNT_fst _ _ _ #[],h1']
 exact ⟨N + 1,v,w',hn,by unfold Clean; rw [h1']; exact hrace _,roomy_placeholder ..,hp,⟨N,last,h2,h3,by rw [h1']; exact ⟨quiet_of hone hol,hho,heh⟩⟩,fun _ _ _ => trivial⟩
section
variable {n m : Nat} {σ : Nat → Nat}
mutual
theorem vok_sub (h : ∀ b,b < n → σ b < m) : ∀ v : Value,VOk n v → VOk m (sub σ v)
 | .pointer (some a),hv => by simp only [VOk,AddrOk,sub] at hv ⊢; exact ⟨h _ hv.1,hv.2⟩
 | .slice (some a) _ _,hv => by simp only [VOk,AddrOk,sub] at hv ⊢; exact ⟨h _ hv.1,hv.2⟩
 | .map (some r),hv => by simp only [VOk,sub] at hv ⊢; exact h _ hv
 | .chan (some r),hv => by simp only [VOk,sub] at hv ⊢; exact h _ hv
 | .func fn first cap,hv => by
  simp only [VOk,sub] at hv ⊢
  refine ⟨?_,aok_sub h first hv.2.1,aok_sub h cap hv.2.2⟩
  have h1 := hv.1
  cases fn <;> simp only [subFn,FnOk] at h1 ⊢
  exact h _ h1
 | .iface _ v,hv => by simp only [VOk,sub] at hv ⊢; exact vok_sub h v hv
 | .agg cs,hv => by simp only [VOk,sub] at hv ⊢; exact aok_sub h cs hv
 | .tuple vs,hv => by simp only [VOk,sub] at hv ⊢; exact aok_sub h vs hv
 | .bool _,_ | .int _ _,_ | .float _ _,_ | .complex _ _ _,_ | .string _,_ | .pointer none,_ | .slice none _ _,_ | .map none,_ | .chan none,_ | .nilFunc,_ | .nilIface,_ => by simp only [VOk,sub]
theorem aok_sub (h : ∀ b,b < n → σ b < m) : ∀ a : Array Value,AOk n a → AOk m (subA σ a)
 | ⟨l⟩,hv => by simp only [AOk,subA] at hv ⊢; exact lok_sub h l hv
theorem lok_sub (h : ∀ b,b < n → σ b < m) : ∀ l : List Value,LOk n l → LOk m (subL σ l)
 | [],_ => by simp only [LOk,subL]
 | v :: l,hv => by simp only [LOk,subL] at hv ⊢; exact ⟨vok_sub h v hv.1,lok_sub h l hv.2⟩
end
end
theorem J0.tagFree (P : Program) (W0 : World) (Post : Value → World → Prop) : TagFree (J0 P W0 Post) := fun _g _w _ft _x h gs w₁ sl t q h1 h2 h3 h4 h5 h6 h7 h8 =>
 h gs w₁ sl t q h1 h2 ⟨h3.heap,h3.size,h3.tape,h3.os,h3.output⟩ h4 h5 h6 h7 h8
theorem ro_rel {ρ : Env} {h : List AObj} {w : World} (hobj : ∀ b o,h[b]? = some o → ORel h.length ρ b o w.heap[ρ.blk b]?) (hro : ∀ o ∈ h,o.wrt = false ∧ ∀ x,o ≠ .group x)
  (hrd : ∀ b o,h[b]? = some o → o.live = true → ρ.blk b < w.heap.size) : HRel ρ h (startFC w) w (startFt w) where
 obj := hobj
 inj := fun b b' o o' hb hb' _ _ lw _ => lw.elim (fun k => by rw [(hro o (List.mem_of_getElem? hb)).1] at k; cases k) fun k => by rw [(hro o' (List.mem_of_getElem? hb')).1] at k; cases k
 rd := hrd
 wr := fun b o hb hw => by rw [(hro o (List.mem_of_getElem? hb)).1] at hw; cases hw
 lt := fun b hb => hb
 sub := fun b hb => hb.elim
 kept := fun b o hb => ⟨hb,(Array.getElem?_eq_some_iff.1 hb).1,fun a oa ha hw => by rw [(hro oa (List.mem_of_getElem? ha)).1] at hw; cases hw⟩
 keptW := fun b hb => hb.elim
 tag := fun b x hb => absurd rfl ((hro _ (List.mem_of_getElem? hb)).2 x)
open Classical in
noncomputable def flat (v : Value) : Value := if VOk 0 v ∧ one v = true then v else unk
theorem flat_of {v : Value} (h : VOk 0 v ∧ one v = true) : flat v = v := if_pos h
noncomputable def flatO : AObj → AObj
 | .cells c _ _ => .cells (c.map flat) false 0
 | _ => .dead
def toldEnv (n g : Nat) : Env := ⟨fun b => if b < n then b else if b = n then g else b - (n + 1),fun _ => 0⟩
abbrev shift (n : Nat) : Nat → Nat := fun b => n + 1 + b
def toldO (told : Nat → Option (List Value)) (i : Nat) : AObj := match told i with | some c => .typed false i c false | none => .dead
noncomputable def toldH (told : Nat → Option (List Value)) (g : Nat) (w : World) : List AObj := (List.range w.heap.size).map (toldO told) ++ .place g :: (absH w).map flatO
section
variable {told : Nat → Option (List Value)} {g : Nat} {w : World}
theorem toldH_len : (toldH told g w).length = w.heap.size + 1 + w.heap.size := by simp [toldH,absH_len]; omega
theorem toldH_lo {i : Nat} (hi : i < w.heap.size) : (toldH told g w)[i]? = some (toldO told i) := by
 unfold toldH
 rw [List.getElem?_append_left (by simpa using hi)]
 simp [hi]
theorem toldH_mid : (toldH told g w)[w.heap.size]? = some (.place g) := by
 unfold toldH
 rw [List.getElem?_append_right (by simp)]
 simp
theorem toldH_hi (i : Nat) : (toldH told g w)[w.heap.size + 1 + i]? = ((absH w)[i]?).map flatO := by
 unfold toldH
 rw [List.getElem?_append_right (by simp; omega)]
 have : w.heap.size + 1 + i - ((List.range w.heap.size).map (toldO told)).length = i + 1 := by simp; omega
 rw [this,List.getElem?_cons_succ,List.getElem?_map]
theorem toldO_wrt (i : Nat) : (toldO told i).wrt = false ∧ ∀ x,toldO told i ≠ .group x := by
 unfold toldO
 split <;> exact ⟨rfl,fun x e => by cases e⟩
theorem flatO_wrt (o : AObj) : (flatO o).wrt = false ∧ ∀ x,flatO o ≠ .group x := by
 cases o <;> exact ⟨rfl,fun x e => by cases e⟩
theorem toldH_cases {i : Nat} {o : AObj} (h : (toldH told g w)[i]? = some o) : (i < w.heap.size ∧ o = toldO told i) ∨ (i = w.heap.size ∧ o = .place g) ∨ ∃ j x,i = w.heap.size + 1 + j ∧ (absH w)[j]? = some x ∧ o = flatO x := by
 rcases Nat.lt_trichotomy i w.heap.size with hi | rfl | hi
 ·rw [toldH_lo hi] at h
  cases h
  exact .inl ⟨hi,rfl⟩
 ·rw [toldH_mid] at h
  cases h
  exact .inr (.inl ⟨rfl,rfl⟩)
 ·obtain ⟨j,rfl⟩ : ∃ j,i = w.heap.size + 1 + j := ⟨i - (w.heap.size + 1),by omega⟩
  rw [toldH_hi] at h
  obtain ⟨x,hx,rfl⟩ := Option.map_eq_some_iff.1 h
  exact .inr (.inr ⟨j,x,rfl,hx,rfl⟩)
theorem env_lo {n i : Nat} (hi : i < n) : (toldEnv n g).blk i = i := if_pos hi
theorem env_mid {n : Nat} : (toldEnv n g).blk n = g := by simp [toldEnv]
theorem env_hi {n i : Nat} : (toldEnv n g).blk (n + 1 + i) = i := by
 unfold toldEnv
 simp only
 rw [if_neg (by omega),if_neg (by omega)]
 omega
theorem told_rel (ht : ∀ i c,told i = some c → i < w.heap.size → ∃ c' ty fr,w.heap[i]? = some (.cells c' ty fr) ∧ CellsRel (toldH told g w).length (toldEnv w.heap.size g) i c false 0 c' fr) :
  HRel (toldEnv w.heap.size g) (toldH told g w) (startFC w) w (startFt w) := by
 refine ro_rel (fun b o hb => ?_) (fun o ho => ?_) fun b o hb hl => ?_
 ·rcases toldH_cases hb with ⟨hi,rfl⟩ | ⟨rfl,rfl⟩ | ⟨j,x,rfl,hx,rfl⟩
  ·rw [env_lo hi]
   unfold toldO
   cases hc : told b with
   | none => trivial
   | some c =>
    obtain ⟨c',ty,fr,hw,hr⟩ := ht b c hc hi
    rw [hw]
    exact ⟨hr,(fun e => by cases e),fun _ => env_lo hi⟩
  ·exact env_mid
  ·rw [env_hi]
   cases x with
   | cells c wr sz =>
    have h1 := (start_rel w).obj j _ hx
    have h1 : ORel (absH w).length idEnv j (.cells c wr sz) w.heap[j]? := h1
    rw [absH_get] at hx
    obtain ⟨y,hy,e⟩ := Option.map_eq_some_iff.1 hx
    rw [hy] at h1 ⊢
    cases y with
    | cells c' ty fr =>
     cases e
     obtain ⟨a1,a2,_,_⟩ := h1
     refine ⟨fun i v hv => ?_,fun _ => by rw [List.length_map]; exact a2 rfl,fun hz => absurd rfl hz,fun e => by cases e⟩
     rw [List.getElem?_map] at hv
     obtain ⟨u,hu,rfl⟩ := Option.map_eq_some_iff.1 hv
     by_cases hf : VOk 0 u ∧ one u = true
     ·rw [flat_of hf]
      rcases a1 i u hu with ⟨rfl,_⟩ | ⟨_,_,b3⟩
      ·exact .inl ⟨rfl,rfl⟩
      ·exact .inr ⟨VOk.mono (Nat.zero_le _) _ hf.1,hf.2,by rw [b3,ren0 u hf.1,ren0 u hf.1]⟩
     ·exact .inl ⟨if_neg hf,rfl⟩
    | _ => cases e
   | _ => trivial
 ·obtain ⟨i,hi⟩ := List.mem_iff_getElem?.1 ho
  rcases toldH_cases hi with ⟨_,rfl⟩ | ⟨_,rfl⟩ | ⟨j,x,_,_,rfl⟩
  ·exact toldO_wrt i
  ·exact ⟨rfl,fun x e => by cases e⟩
  ·exact flatO_wrt x
 ·rcases toldH_cases hb with ⟨hi,rfl⟩ | ⟨rfl,rfl⟩ | ⟨j,x,rfl,hx,rfl⟩
  ·rw [env_lo hi]
   exact hi
  ·cases hl
  ·rw [env_hi]
   have := (List.getElem?_eq_some_iff.1 hx).1
   rwa [absH_len] at this
theorem told_sli {v : Value} {s k : Nat} {cells : List Value} (h : Sli (absH w) v s k cells) (hf : ∀ x ∈ cells,VOk 0 x ∧ one x = true) : Sli (toldH told g w) (sub (shift w.heap.size) v) s k cells := by
 obtain ⟨base,c,rfl,hk,hb⟩ := h
 rcases hb with ⟨rfl,h0⟩ | ⟨b,o,rfl,hn⟩
 ·exact ⟨none,c,by simp [sub],hk,.inl ⟨rfl,h0⟩⟩
 ·refine ⟨some ⟨shift w.heap.size b,o,none⟩,c,by simp [sub],hk,.inr ⟨_,o,rfl,hn.imp id ?_⟩⟩
  rintro ⟨cs,wr,sz,hcs,e⟩
  refine ⟨cs.map flat,false,0,by rw [toldH_hi,hcs]; rfl,?_⟩
  rw [← List.map_drop,← List.map_take,e]
  refine (List.map_congr_left (g := id) fun x hx => flat_of (hf x hx)).trans (List.map_id _)
theorem flat_int {n : Int} : VOk 0 (vint n) ∧ one (vint n) = true := ⟨by simp [VOk],rfl⟩
theorem told_ints {v : Value} {ns : List Int} (h : Sli (absH w) v 1 ns.length (ns.map vint)) : Sli (toldH told g w) (sub (shift w.heap.size) v) 1 ns.length (ns.map vint) :=
 told_sli h fun x hx => by
  obtain ⟨i,_,rfl⟩ := List.mem_map.1 hx
  exact flat_int
theorem told_arg {v : Value} (h : ArgOk w v) : VRel (toldH told g w).length (toldEnv w.heap.size g) (sub (shift w.heap.size) v) v := by
 obtain ⟨h1,h2⟩ := h
 refine .inr ⟨vok_sub (fun b hb => by rw [toldH_len]; show w.heap.size + 1 + b < _; omega) v h1,?_⟩
 rw [ren_sub]
 refine (h2.symm.trans ?_)
 refine (ren_congr (fun b _ => ?_) v h1 : ren ((toldEnv w.heap.size g).comp (shift w.heap.size)) v = ren idEnv v).symm
 exact ⟨env_hi,rfl⟩
theorem law_runT {f : FuncId} {fn : Func} {c : Code} (hf : prog.funcs[f]? = some fn) (hb : fn.body = some c) (hin : prog.inits.idxOf? f = none) (args : List Value) (ha : args.length ≤ fn.ntmps) (hok : ∀ v ∈ args,ArgOk w v)
  (ht : ∀ i c,told i = some c → i < w.heap.size → ∃ c' ty fr,w.heap[i]? = some (.cells c' ty fr) ∧ CellsRel (toldH told g w).length (toldEnv w.heap.size g) i c false 0 c' fr)
  (walk : ∀ J : JT,Closed prog true J → TagFree J → W prog J fn.ntmps (toldH told g w).length f c ⟨regs (args.map (sub (shift w.heap.size))),[]⟩ (toldH told g w) (RetQ prog fn.results.toList (toldH told g w).length fun v _ => v = .bool true)) :
  EndsQ prog (fun v w' => v = .bool true ∧ Below w.heap.size w w') (solo (G (Frame.enter prog f ⟨args⟩ .normal) []) w) #[] := by
 refine run_of_J0 (W0 := w) (ft := startFt w) (top_of_W0 (args := args.map (sub (shift w.heap.size))) mixed hf hb hin (by rw [List.length_map]; exact ha) (by simp) (fun i => ?_) (told_rel ht) (walk _ (J0.closed prog w _) (J0.tagFree prog w _)) ?_) (fun b hb => hb) (fun b hb => hb.elim) rfl
 ·show VRel _ _ ((args.map (sub (shift w.heap.size))).getD i unk) (args.getD i undef)
  simp only [List.getD_eq_getElem?_getD,List.getElem?_map]
  cases hi : args[i]? with
  | none => exact .inl rfl
  | some v => exact told_arg (hok v (List.mem_of_getElem? hi))
 ·intro v h' ρ' w' ft' cv hv H' _ _ hcv hB
  subst hv
  refine ⟨?_,below_of H' hB⟩
  rcases hcv with e | ⟨_,e⟩
  ·cases e
  ·rw [e]
   rfl
end
section
variable {H : Type} {enc : TypeId × Value → H}
theorem handed_told {a : Assume} {C : Checked} {os : Os} {f : FuncId} {fn : Func} {s : ChangeSpec} {conds : List PathCond} {apart fresh handsOn again : Bool} {X : World → Array Value → Prop}
  (own : ownKnob C.prog.godebug = none) (started : os.Started) (hfn : C.prog.funcs[f]? = some fn)
  (witness : ∃ (w : World) (tape : Tape) (i : Input),w.os = os ∧ (w.forCall tape i).Shaped C.prog ∧ i.vars = [] ∧ Input.okWide C.prog (w.forCall tape i) .any w.heap.size f i ∧
   ((s.pre enc C.prog fn conds apart (w.forCall tape i).memory i.args ∧ X (w.forCall tape i).memory i.args) ∧ sizedMet enc C.prog fn (OpenSpec.ofChange s) apart (w.forCall tape i).memory i.args) ∧ a.holds C.prog (lone (Frame.enter C.prog f i.args .normal) [] (w.forCall tape i)))
  (runs : ∀ (W : World) (base : Nat) (args : Array Value) (ds gs : List (DataW H)) (before : List MemPlace),W.ShapedOpen C.prog →
   (∀ (j : Nat) t v,fn.params[j]? = some t → args[j]? = some v → Value.okWide C.prog W .any base t v) →
   DataW.Whole enc C.prog fn.params.toList s.vars apart W args.toList ds gs before →
   conds.all (PathCond.test C.prog ⟨fn.params.toList,ds,s.plain.varTypes C.prog,gs⟩) = true →
   (DataW.weightsEach C.prog (fn.params.toList ++ s.plain.varTypes C.prog) (ds ++ gs)).all (· ≤ reachBytes) = true → X W.memory args →
   EndsQ C.prog (fun v W' => s.post enc C.prog fn apart fresh handsOn again W args v W') (solo (G (Frame.enter C.prog f args .normal) []) W) #[]) :
  ReturnsInHanded a C os f .any (fun w args => (s.pre enc C.prog fn conds apart w args ∧ X w args) ∧ sizedMet enc C.prog fn (OpenSpec.ofChange s) apart w args) (s.post enc C.prog fn apart fresh handsOn again) := by
 refine handed_of_good own started witness ?_
 intro w tape i _ hsh _ hok hpre hholds
 obtain ⟨_,_,_,fn',hfn',_,_,_,_,hval⟩ := hok
 have e : fn' = fn := Option.some.inj (hfn'.symm.trans hfn)
 subst e
 obtain ⟨⟨⟨ds,gs,before,hw,hc⟩,hx⟩,hz⟩ := hpre
 have hw' := DataW.Whole.of_heap (w' := w.forCall tape i) (by rfl) hw
 obtain ⟨M,last,o,w',t',h1,h2,h3,h4,h5⟩ := runs (w.forCall tape i) w.heap.size i.args ds gs before hsh hval hw' hc (hz.weights hw) hx
 exact ⟨M,last,o,w',t',h1,h2,h3,h4.mono fun v hp => ChangeSpec.post_blind hp,h5⟩
end
theorem flatE_get {α : Type} {enc : α → List Value} {s : Nat} (hen : ∀ x,(enc x).length = s) (xs : List α) {i j : Nat} (hi : i < xs.length) (hj : j < s) : (xs.flatMap enc)[i * s + j]? = (enc xs[i])[j]? := by
 have := flat_take hen xs i hi
 rw [← this,List.getElem?_take,if_pos hj,List.getElem?_drop]
theorem flatE_len {α : Type} {enc : α → List Value} {s : Nat} (hen : ∀ x,(enc x).length = s) : ∀ xs : List α,(xs.flatMap enc).length = xs.length * s
 | [] => by simp
 | x :: xs => by rw [List.flatMap_cons,List.length_append,flatE_len hen xs,hen,List.length_cons,Nat.succ_mul]; omega
theorem flatE_kn {α : Type} {enc : α → List Value} (hk : ∀ x,kn (enc x) = true) : ∀ xs : List α,kn (xs.flatMap enc) = true
 | [] => rfl
 | x :: xs => by
  have h1 := hk x
  have h2 := flatE_kn hk xs
  unfold kn at *
  rw [List.flatMap_cons,List.all_append,h1,h2]
  rfl
theorem trodAll_cons {H : Type} {enc : TypeId × Value → H} {P : Program} {w : World} {base : Nat} {spare : Nat → Bool} {held : Bool} {t : TypeId} {ts : List TypeId} {vs : List Value} {ds : List (DataW H)} {ps : List MemPlace}
  (h : DataW.TrodAll enc P w base spare held (t :: ts) vs ds ps) : ∃ v vs' d ds' p q,vs = v :: vs' ∧ ds = d :: ds' ∧ ps = p ++ q ∧ DataW.Trod enc P w base spare held t v d p ∧ DataW.TrodAll enc P w base spare held ts vs' ds' q := by
 match vs,ds,h with
 | v :: vs,d :: ds,⟨p,q,h1,h2,h3⟩ => exact ⟨v,vs,d,ds,p,q,rfl,rfl,h3,h1,h2⟩
theorem trodAll_nil {H : Type} {enc : TypeId × Value → H} {P : Program} {w : World} {base : Nat} {spare : Nat → Bool} {held : Bool} {vs : List Value} {ds : List (DataW H)} {ps : List MemPlace}
  (h : DataW.TrodAll enc P w base spare held [] vs ds ps) : vs = [] ∧ ds = [] ∧ ps = [] := by
 match vs,ds,h with
 | [],[],h => exact ⟨rfl,rfl,h⟩
theorem trodAll_mkc {H : Type} {enc : TypeId × Value → H} {P : Program} {w : World} {base : Nat} {spare : Nat → Bool} {held : Bool} {t : TypeId} {ts : List TypeId} {v : Value} {vs : List Value} {d : DataW H} {ds : List (DataW H)} {p q : List MemPlace}
 (h1 : DataW.Trod enc P w base spare held t v d p) (h2 : DataW.TrodAll enc P w base spare held ts vs ds q) : DataW.TrodAll enc P w base spare held (t :: ts) (v :: vs) (d :: ds) (p ++ q) := ⟨p,q,h1,h2,rfl⟩
section
variable {H : Type} {enc : TypeId × Value → H}
theorem arg_sliE {α : Type} [Inhabited α] {encE : α → List Value} {t e : TypeId} {s : Nat} (ht : prog.underlying t = some (.slice e)) (hc : prog.cellsOf e = s) (hs : 0 < s) {W : World} {base n : Nat} {v : Value} {x : DataW H × List MemPlace}
  (hlen : ∀ x,(encE x).length = s) (hkn : ∀ x,kn (encE x) = true) (hfine : ∀ x,∀ y ∈ encE x,∀ m,Fine m y)
  (dec : ∀ n cs r,DataW.trod enc prog W 0 (fun _ => true) true n e cs = some r → ∃ x,cs = encE x)
  (hval : Cell.okWide prog W .any base t v) (hf : DataW.trod enc prog W 0 (fun _ => true) true n t v.cells.toList = some x) :
  ∃ xs : List α,SliE (absH W) v s encE xs ∧ ArgOk W v := by
 have hval' : Value.okWide prog W .any base t v := by
  unfold Value.okWide
  rw [ht]
  exact hval
 obtain ⟨a0,len0,cap0,rfl⟩ := okWide_slice ht hval'
 clear hval'
 rcases Deep.open_slice ht hf with ⟨hcs,hx⟩ | ⟨a,len,cap,m,n',D,Pl,hcs,_,hl,hm,hmm,hx,hel⟩
 ·simp [Value.cells] at hcs
  obtain ⟨rfl,rfl,rfl⟩ := hcs
  exact ⟨[],⟨none,0,rfl,⟨by simp,rfl⟩,.inl ⟨rfl,rfl⟩⟩,⟨by simp [VOk],by simp [ren]⟩⟩
 ·simp [Value.cells] at hcs
  obtain ⟨rfl,rfl,rfl⟩ := hcs
  simp only [if_true] at hmm
  subst hmm
  simp only [ht,Cell.okWide,Cell.ok,World.has] at hval
  obtain ⟨_,_,_,hspot,row,cells,hshape,_⟩ := hval
  obtain ⟨b,o,spot⟩ := a
  simp only at hspot hshape
  subst hspot
  have hb : b < W.heap.size := by
   unfold World.shape? at hshape
   split at hshape
   ·rename_i h
    exact (Array.getElem?_eq_some_iff.1 h).1
   ·cases hshape
  have hmax : m < fz := by
   simp only [maxLen] at hm
   unfold fz
   omega
  obtain ⟨f,hfx⟩ := Deep.choose_lt (α := α) (p := fun i x => W.cells? 0 ((⟨b,o,none⟩ : Addr).add (i * prog.cellsOf e)) (prog.cellsOf e) = some (encE x)) (fun i (hi : i < m) => by
   obtain ⟨cs',h1,h2⟩ := hel i hi
   obtain ⟨x,rfl⟩ := dec _ _ _ h2
   exact ⟨x,h1⟩)
  rw [hc] at hfx
  have hcell : ∀ i j,i < m → j < s → W.cell? ⟨b,o + (i * s + j),none⟩ = (encE (f i))[j]? := fun i j hi hj => by
   have := (World.cells?_some (hfx i hi)).2.2 j hj
   rw [Deep.add_add] at this
   revert this
   generalize i * s + j = k
   intro this
   unfold Addr.add at this
   by_cases h0 : k = 0
   ·subst h0
    simpa using this
   ·simpa [h0] using this
  have hxl : ((List.range len0).map f).length = len0 := by simp
  refine ⟨(List.range len0).map f,?_,⟨by simp only [VOk,AddrOk]; exact ⟨hb,trivial⟩,?_⟩⟩
  ·refine ⟨some ⟨b,o,none⟩,m,by rw [hxl],⟨flatE_len hlen _,flatE_kn hkn _⟩,.inr ⟨b,o,rfl,?_⟩⟩
   rw [hxl]
   by_cases h0 : len0 = 0
   ·exact .inl h0
   ·right
    have key : ∀ i j,i < len0 → j < s → ∃ c,(absH W)[b]? = some (.cells c false 0) ∧ c[o + (i * s + j)]? = (encE (f i))[j]? := fun i j hi hj => by
     have h1 := hcell i j (by omega) hj
     have h2 : j < (encE (f i)).length := by rw [hlen]; exact hj
     rw [List.getElem?_eq_getElem h2] at h1 ⊢
     exact absH_cell h1 (hfine _ _ (List.getElem_mem h2) _)
    obtain ⟨c,hc1,_⟩ := key 0 0 (by omega) hs
    refine ⟨c,false,0,hc1,?_⟩
    apply List.ext_getElem?
    intro k
    by_cases hk : k < len0 * s
    ·have hq : k / s < len0 := Nat.div_lt_of_lt_mul (by rw [Nat.mul_comm]; exact hk)
     have hr : k % s < s := Nat.mod_lt _ hs
     have hkk : k / s * s + k % s = k := by rw [Nat.mul_comm]; exact Nat.div_add_mod k s
     obtain ⟨c',hc1',hc2'⟩ := key _ _ hq hr
     rw [hc1] at hc1'
     cases hc1'
     rw [List.getElem?_take,if_pos hk,List.getElem?_drop]
     rw [hkk] at hc2'
     rw [hc2']
     have := flatE_get hlen ((List.range len0).map f) (i := k / s) (j := k % s) (by rw [hxl]; exact hq) hr
     rw [hkk] at this
     rw [this]
     simp
    ·rw [List.getElem?_take,if_neg hk,List.getElem?_eq_none (by rw [flatE_len hlen,hxl]; omega)]
  ·have hnf : ¬ fz ≤ m := by omega
   simp [ren,renAddr,renCap,idEnv,hnf]
theorem fine_int {m : Nat} {n : Int} : Fine m (vint n) := ⟨by simp [VOk],rfl,by simp [ren]⟩
theorem trod_vint {W : World} {n : Nat} {cs : List Value} {r : DataW H × List MemPlace} {t : TypeId} (u : prog.underlying t = some (.int .i64)) (h : DataW.trod enc prog W 0 (fun _ => true) true n t cs = some r) : ∃ z,cs = [vint z] := by
 obtain ⟨z,h1,_⟩ := DataW.trod_int u h
 exact ⟨z,h1⟩
end
instance : Inhabited Rng := ⟨⟨0,0⟩⟩
instance : Inhabited Cnt := ⟨⟨0,0,0,0⟩⟩
section
variable {H : Type} {enc : TypeId × Value → H} {W : World} {n base : Nat} {cs : List Value} {r : DataW H × List MemPlace}
def structOf : Option TypeDesc → Option (List (TypeId × Nat))
 | some (.struct fs) => some (fs.toList.map fun f => (f.type,f.offset))
 | _ => none
theorem trod_fields {t : TypeId} {l : List (TypeId × Nat)} (hs : structOf (prog.underlying t) = some l) (h : DataW.trod enc prog W 0 (fun _ => true) true n t cs = some r) :
  cs.length = prog.cellsOf t ∧ ∃ n' : Nat,∀ (i : Nat) (ty : TypeId) (off : Nat),l[i]? = some (ty,off) → ∃ r',DataW.trod enc prog W 0 (fun _ => true) true n' ty ((cs.drop off).take (prog.cellsOf ty)) = some r' := by
 unfold structOf at hs
 split at hs
 ·rename_i fs hu
  cases hs
  obtain ⟨xs,n',_,rfl,hl,hxl,hf⟩ := DataW.trod_struct hu h
  refine ⟨hl,n',fun i ty off hi => ?_⟩
  rw [List.getElem?_map,Option.map_eq_some_iff] at hi
  obtain ⟨f,hfi,he⟩ := hi
  cases he
  have hfi' : fs[i]? = some f := by simpa using hfi
  have hil : i < xs.length := by rw [hxl]; exact (Array.getElem?_eq_some_iff.1 hfi').1
  exact ⟨xs[i],by rw [hf i f hfi',List.getElem?_eq_getElem hil]⟩
 ·cases hs
theorem dec_rng (h : DataW.trod enc prog W 0 (fun _ => true) true n 23 cs = some r) : ∃ x : Rng,cs = x.cells := by
 have u3 : prog.underlying 3 = some (.int .i64) := by kernel_rfl
 have c3 : prog.cellsOf 3 = 1 := by kernel_rfl
 have c38 : prog.cellsOf 23 = 2 := by kernel_rfl
 obtain ⟨hl,n',hf⟩ := trod_fields (l := [(3,0),(3,1)]) (by kernel_rfl) h
 rw [c38] at hl
 obtain ⟨a,b,rfl⟩ : ∃ a b,cs = [a,b] := by
  match cs,hl with
  | [a,b],_ => exact ⟨a,b,rfl⟩
 obtain ⟨_,g0⟩ := hf 0 3 0 rfl
 obtain ⟨_,g1⟩ := hf 1 3 1 rfl
 rw [c3] at g0 g1
 obtain ⟨z0,w0⟩ := trod_vint u3 g0
 obtain ⟨z1,w1⟩ := trod_vint u3 g1
 simp at w0 w1
 exact ⟨⟨z0,z1⟩,by rw [w0,w1]; rfl⟩
theorem dec_cnt (h : DataW.trod enc prog W 0 (fun _ => true) true n 59 cs = some r) : ∃ x : Cnt,cs = x.cells := by
 have u3 : prog.underlying 3 = some (.int .i64) := by kernel_rfl
 have c3 : prog.cellsOf 3 = 1 := by kernel_rfl
 have c61 : prog.cellsOf 59 = 4 := by kernel_rfl
 obtain ⟨hl,n',hf⟩ := trod_fields (l := [(3,0),(3,1),(3,2),(3,3)]) (by kernel_rfl) h
 rw [c61] at hl
 obtain ⟨a,b,c,d,rfl⟩ : ∃ a b c d,cs = [a,b,c,d] := by
  match cs,hl with
  | [a,b,c,d],_ => exact ⟨a,b,c,d,rfl⟩
 obtain ⟨_,g0⟩ := hf 0 3 0 rfl
 obtain ⟨_,g1⟩ := hf 1 3 1 rfl
 obtain ⟨_,g2⟩ := hf 2 3 2 rfl
 obtain ⟨_,g3⟩ := hf 3 3 3 rfl
 rw [c3] at g0 g1 g2 g3
 obtain ⟨z0,w0⟩ := trod_vint u3 g0
 obtain ⟨z1,w1⟩ := trod_vint u3 g1
 obtain ⟨z2,w2⟩ := trod_vint u3 g2
 obtain ⟨z3,w3⟩ := trod_vint u3 g3
 simp at w0 w1 w2 w3
 exact ⟨⟨z0,z1,z2,z3⟩,by rw [w0,w1,w2,w3]; rfl⟩
theorem fine_rng (x : Rng) : ∀ y ∈ x.cells,∀ m,Fine m y := fun y hy m => by
 simp only [Rng.cells,List.mem_cons,List.not_mem_nil,or_false] at hy
 rcases hy with rfl | rfl <;> exact fine_int
theorem fine_cnt (x : Cnt) : ∀ y ∈ x.cells,∀ m,Fine m y := fun y hy m => by
 simp only [Cnt.cells,List.mem_cons,List.not_mem_nil,or_false] at hy
 rcases hy with rfl | rfl | rfl | rfl <;> exact fine_int
theorem lok_of : ∀ {l : List Value} {m : Nat},(∀ v ∈ l,VOk m v) → LOk m l
 | [],_,_ => by simp [LOk]
 | v :: l,m,h => by
  simp only [LOk]
  exact ⟨h v (by simp),lok_of fun u hu => h u (by simp [hu])⟩
theorem argOk_agg {l : List Value} (h : ∀ v ∈ l,ArgOk W v) : ArgOk W (.agg ⟨l⟩) := by
 refine ⟨?_,?_⟩
 ·simp only [VOk,AOk]
  exact lok_of fun v hv => (h v hv).1
 ·simp only [ren,renA,renL_eq]
  congr 2
  rw [List.map_congr_left (g := id) fun v hv => (h v hv).2,List.map_id]
theorem argOk_fine {v : Value} (h : ∀ m,Fine m v) : ArgOk W v := ⟨(h _).1,(h 0).2.2⟩
theorem agg_of {t : TypeId} {l : List (TypeId × Nat)} {v : Value} (hs : structOf (prog.underlying t) = some l) (hval : Value.okWide prog W .any base t v) : ∃ cs,v = .agg cs ∧ Row.okWide prog W .any base t cs := by
 unfold structOf at hs
 split at hs
 ·rename_i fs hu
  simp only [Value.okWide,hu] at hval
  obtain ⟨cs,h1,_,h3⟩ := hval
  exact ⟨cs,h1,h3⟩
 ·cases hs
theorem arg_tal {v : Value} {d : DataW H} {ps : List MemPlace} (hval : Value.okWide prog W .any base 27 v) (hd : DataW.Trod enc prog W 0 (fun _ => true) true 27 v d ps) : ∃ (t : Tal) (cv nv : Value),TalAt (absH W) v t cv nv ∧ ArgOk W v := by
 have u3 : prog.underlying 3 = some (.int .i64) := by kernel_rfl
 have u39 : prog.underlying 24 = some (.slice 23) := by kernel_rfl
 have u40 : prog.underlying 25 = some (.slice 59) := by kernel_rfl
 have c3 : prog.cellsOf 3 = 1 := by kernel_rfl
 have c38 : prog.cellsOf 23 = 2 := by kernel_rfl
 have c39 : prog.cellsOf 24 = 1 := by kernel_rfl
 have c40 : prog.cellsOf 25 = 1 := by kernel_rfl
 have c61 : prog.cellsOf 59 = 4 := by kernel_rfl
 have c42 : prog.cellsOf 27 = 6 := by kernel_rfl
 have hst : structOf (prog.underlying 27) = some [(3,0),(23,1),(24,3),(3,4),(25,5)] := by kernel_rfl
 have hct : prog.cellTypes prog.depth 27 = some [3,3,3,24,3,25] := by kernel_rfl
 obtain ⟨fuel,hf⟩ := hd
 obtain ⟨⟨cs⟩,rfl,ts,hts,_,hrow⟩ := agg_of hst hval
 rw [hct] at hts
 cases hts
 have hf' : DataW.trod enc prog W 0 (fun _ => true) true fuel 27 cs = some (d,ps) := by simpa [Value.cells] using hf
 obtain ⟨hl,n',hfl⟩ := trod_fields hst hf'
 rw [c42] at hl
 obtain ⟨x0,x1,x2,x3,x4,x5,rfl⟩ : ∃ a b c d e f,cs = [a,b,c,d,e,f] := by
  match cs,hl with
  | [a,b,c,d,e,f],_ => exact ⟨a,b,c,d,e,f,rfl⟩
 obtain ⟨_,g0⟩ := hfl 0 3 0 rfl
 obtain ⟨_,g1⟩ := hfl 1 23 1 rfl
 obtain ⟨y3,g3⟩ := hfl 2 24 3 rfl
 obtain ⟨_,g4⟩ := hfl 3 3 4 rfl
 obtain ⟨y5,g5⟩ := hfl 4 25 5 rfl
 rw [c3] at g0 g4
 rw [c38] at g1
 rw [c39] at g3
 rw [c40] at g5
 obtain ⟨z0,w0⟩ := trod_vint u3 g0
 obtain ⟨z4,w4⟩ := trod_vint u3 g4
 obtain ⟨fr,w1⟩ := dec_rng g1
 simp at w0 w4
 simp [Rng.cells] at w1
 obtain ⟨w1,w2⟩ := w1
 subst w0 w4 w1 w2
 obtain ⟨u,hu,k3⟩ := hrow 3 x3 rfl
 cases hu
 obtain ⟨u,hu,k5⟩ := hrow 5 x5 rfl
 cases hu
 have v3 : x3.cells.toList = [x3] := by
  obtain ⟨a0,a1,a2,rfl⟩ := okWide_slice u39 (show Value.okWide prog W .any base 24 x3 by unfold Value.okWide; rw [u39]; exact k3)
  rfl
 have v5 : x5.cells.toList = [x5] := by
  obtain ⟨a0,a1,a2,rfl⟩ := okWide_slice u40 (show Value.okWide prog W .any base 25 x5 by unfold Value.okWide; rw [u40]; exact k5)
  rfl
 obtain ⟨chs,s3,ok3⟩ := arg_sliE (encE := Rng.cells) (n := n') (x := y3) u39 c38 (by omega) (fun _ => rfl) (fun _ => rfl) fine_rng (fun _ _ _ h => dec_rng h) k3 (by rw [v3]; exact g3)
 obtain ⟨cos,s5,ok5⟩ := arg_sliE (encE := Cnt.cells) (n := n') (x := y5) u40 c61 (by omega) (fun _ => rfl) (fun _ => rfl) fine_cnt (fun _ _ _ h => dec_cnt h) k5 (by rw [v5]; exact g5)
 refine ⟨⟨z0,fr,chs,z4,cos⟩,x3,x5,⟨rfl,s3,s5⟩,argOk_agg fun v hv => ?_⟩
 simp only [List.mem_cons,List.not_mem_nil,or_false] at hv
 rcases hv with rfl | rfl | rfl | rfl | rfl | rfl
 ·exact argOk_int
 ·exact argOk_int
 ·exact argOk_int
 ·exact ok3
 ·exact argOk_int
 ·exact ok5
end
abbrev laidL : List (String × DataW Unit) := [("math/bits.deBruijn32tab", Rows.laid_math_bits_deBruijn32tab), ("math/bits.deBruijn64tab", Rows.laid_math_bits_deBruijn64tab), ("internal/strconv.uint64pow10", Rows.laid_internal_strconv_uint64pow10), ("unicode/utf8.acceptRanges", Rows.laid_unicode_utf8_acceptRanges), ("errors.errorType", Rows.laid_errors_errorType), ("unicode/utf8.first", Rows.laid_unicode_utf8_first)]
abbrev laidData : List (String × DataW Unit) := [("math/bits.deBruijn32tab", Rows.laid_math_bits_deBruijn32tab), ("math/bits.deBruijn64tab", Rows.laid_math_bits_deBruijn64tab), ("internal/strconv.uint64pow10", Rows.laid_internal_strconv_uint64pow10), ("unicode/utf8.acceptRanges", Rows.laid_unicode_utf8_acceptRanges), ("unicode/utf8.first", Rows.laid_unicode_utf8_first)]
theorem laid_split : laidL.filter (fun x => x.2.handleName?.isSome) = [("errors.errorType", Rows.laid_errors_errorType)] ∧ laidL.filter (fun x => x.2.handleName?.isNone) = laidData := ⟨by kernel_rfl, by kernel_rfl⟩
def cellsN : Nat → DataW Unit → List Value
 | 0,_ => []
 | n + 1,.agg ds => ds.flatMap (cellsN n)
 | _,.lit (.int k n) => [.int k n]
 | _,_ => []
def laySet (d : DataW Unit) : Obj → Obj
 | .cells _ t frozen => .cells ⟨cellsN 4 d⟩ t frozen
 | o => o
noncomputable def laySetE : Obj → Obj
 | .cells _ t frozen => .cells #[.iface 157 (.agg #[typeHandle prog 72])] t frozen
 | o => o
noncomputable def laidWorld (os : Os) (args : Array Value) : World :=
 let w0 := World.holding prog os ⟨#[],args,[]⟩
 { w0 with heap := (((((w0.heap.modify 0 laySetE).modify 1 (laySet Rows.laid_internal_strconv_uint64pow10)).modify 3 (laySet Rows.laid_math_bits_deBruijn32tab)).modify 4 (laySet Rows.laid_math_bits_deBruijn64tab)).modify 5 (laySet Rows.laid_unicode_utf8_first)).modify 6 (laySet Rows.laid_unicode_utf8_acceptRanges) }
theorem laid_parts {w : World} (h : laidMetH prog laidL w) : laidMet prog laidData w ∧ handlesMet prog [("errors.errorType", Rows.laid_errors_errorType)] w := by
 unfold laidMetH at h
 rw [laid_split.1,laid_split.2] at h
 exact h
theorem pow_cells {w : World} (h : laidMetH prog laidL w) : ∃ ty fr,w.heap[1]? = some (.cells ⟨pow10⟩ ty fr) := by
 obtain ⟨ps,hv,_⟩ := (laid_parts h).1
 obtain ⟨_,_,_,_,_,_,_,_,_,_,hv,_⟩ := hv
 obtain ⟨_,_,_,_,_,_,_,_,_,_,hv,_⟩ := hv
 obtain ⟨g,t,cs,fuel,p,q,hg,ht,hvar,htr,_⟩ := hv
 have hg1 : prog.globalNamed "internal/strconv.uint64pow10" = some 1 := by kernel_rfl
 rw [hg1] at hg
 cases hg
 have hty : (prog.globals[1]?).map (·.type) = some 183 := by kernel_rfl
 rw [hty] at ht
 cases ht
 have hcell : ∃ ty fr,w.heap[1]? = some (.cells cs ty fr) := by
  unfold World.var? at hvar
  rw [hg1] at hvar
  simp only [Option.bind_some] at hvar
  split at hvar
  ·rename_i c ty fr hw
   cases hvar
   exact ⟨_,_,hw⟩
  ·cases hvar
 obtain ⟨ty,fr,hw⟩ := hcell
 refine ⟨ty,fr,?_⟩
 obtain ⟨xs,m,_,hx,hl,hxl,hel⟩ := DataW.trod_array (n := 20) (e := 61) (by kernel_rfl) htr
 have hc1 : prog.cellsOf 61 = 1 := by kernel_rfl
 have hc20 : prog.cellsOf 183 = 20 := by kernel_rfl
 rw [hc20] at hl
 rw [hc1] at hel
 have hd : xs.map (·.1) = (List.range 20).map fun i => (DataW.lit (.int .u64 ((10 ^ i : Nat) : Int)) : DataW Unit) := by
  have := congrArg (fun z : DataW Unit × List MemPlace => z.1) hx
  simp only [Rows.laid_internal_strconv_uint64pow10,DataW.agg.injEq] at this
  exact this.symm
 have hcs : cs.toList = pow10 := by
  refine List.ext_getElem? fun i => ?_
  by_cases hi : i < 20
  ·have h1 := hel i hi
   have hxi : i < xs.length := by omega
   rw [List.getElem?_eq_getElem hxi] at h1
   obtain ⟨n,e1,e2,_⟩ := DataW.trod_int (k := .u64) (by kernel_rfl) h1
   have h3 := congrArg (fun l => l[i]?) hd
   simp only [List.getElem?_map,List.getElem?_eq_getElem hxi,Option.map_some,List.getElem?_range hi,e2,Option.some.injEq,DataW.lit.injEq,Lit.int.injEq,true_and] at h3
   subst h3
   rw [pow10_get hi]
   rw [Nat.mul_one] at e1
   have h4 := congrArg (fun l => l[0]?) e1
   simpa using h4
  ·rw [List.getElem?_eq_none (by omega),List.getElem?_eq_none (by simp [pow10]; omega)]
 rw [hw,← hcs]
theorem err_row : (List.range prog.types.size).all (fun t => !prog.rowNamed t [101,114,114,111,114] || t == 72) = true := by kernel_rfl
theorem err_cells {w : World} (h : laidMetH prog laidL w) : ∃ ty fr,w.heap[0]? = some (.cells #[.iface 157 (.agg #[typeHandle prog 72])] ty fr) := by
 have h1 := (laid_parts h).2 ("errors.errorType", Rows.laid_errors_errorType) (by simp)
 have e : (Rows.laid_errors_errorType : DataW Unit).funcsIn? = none := by kernel_rfl
 rw [e] at h1
 obtain ⟨name,u,ty,a1,a2,a3,a4,a5⟩ := h1
 have en : (Rows.laid_errors_errorType : DataW Unit).handleName? = some [101,114,114,111,114] := by kernel_rfl
 rw [en] at a1
 cases a1
 have eu : (prog.cutTypes.find? (·.1 == "internal/reflectlite.rtype")).map (·.2) = some 157 := by kernel_rfl
 rw [eu] at a2
 cases a2
 have et : ty = 72 := by
  have := List.all_eq_true.1 err_row ty (List.mem_range.2 a3)
  rw [a4] at this
  simpa using this
 subst et
 have hg0 : prog.globalNamed "errors.errorType" = some 0 := by kernel_rfl
 unfold World.var? at a5
 simp only at a5
 rw [hg0] at a5
 simp only [Option.bind_some] at a5
 split at a5
 ·rename_i c ty fr hw
  cases a5
  exact ⟨_,_,hw⟩
 ·cases a5
theorem max_cells {w : World} (h : w.ShapedOpen prog) : ∃ m ty fr,w.heap[2]? = some (.cells #[.int .i64 m] ty fr) := by
 obtain ⟨h1,_⟩ := h
 obtain ⟨cs,hw,hs,hr⟩ := h1 2 #[.int .i64 0] 3 (of_decide_eq_true (by kernel_rfl)) (by kernel_rfl)
 obtain ⟨ts,ht,_,hc⟩ := hr (by kernel_rfl)
 have ht' : prog.cellTypes prog.depth 3 = some [3] := by kernel_rfl
 rw [ht'] at ht
 cases ht
 obtain ⟨v,rfl⟩ : ∃ v,cs = #[v] := by
  obtain ⟨l⟩ := cs
  match l,hs with
  | [v],_ => exact ⟨v,rfl⟩
 obtain ⟨u,hu,hv⟩ := hc 0 v rfl
 cases hu
 have hi : prog.underlying 3 = some (.int .i64) := by kernel_rfl
 unfold Cell.ok at hv
 rw [hi] at hv
 cases v with
 | int k n =>
  obtain ⟨e,_⟩ := hv
  subst e
  exact ⟨n,_,_,hw⟩
 | _ => exact hv.elim
def toldV (n : Nat) (m : Int) : Nat → Option (List Value)
 | 0 => some [rtV n 72]
 | 1 => some pow10
 | 2 => some [.int .i64 m]
 | _ => none
theorem toldV_ok {w : World} {m : Int} {t0 t1 t2 : TypeId} {f0 f1 f2 : Nat × Nat} (h0 : w.heap[0]? = some (.cells #[.iface 157 (.agg #[typeHandle prog 72])] t0 f0)) (h1 : w.heap[1]? = some (.cells ⟨pow10⟩ t1 f1)) (h2 : w.heap[2]? = some (.cells #[.int .i64 m] t2 f2)) :
  ∀ i c,toldV w.heap.size m i = some c → i < w.heap.size → ∃ c' ty fr,w.heap[i]? = some (.cells c' ty fr) ∧ CellsRel (toldH (toldV w.heap.size m) gsz w).length (toldEnv w.heap.size gsz) i c false 0 c' fr := by
 intro i c hc _
 match i,hc with
 | 0,hc =>
  cases hc
  refine ⟨_,_,_,h0,fun j v hv => ?_,fun _ => rfl,fun hz => absurd rfl hz,fun e => by cases e⟩
  match j,hv with
  | 0,hv =>
   cases hv
   have hl := toldH_len (told := toldV w.heap.size m) (g := gsz) (w := w)
   refine .inr ⟨by simp [VOk,AOk,LOk,AddrOk,hl],rfl,?_⟩
   simp [ren,renA,renL,renAddr,env_mid,typeHandle,gsz]
 | 1,hc =>
  cases hc
  refine ⟨_,_,_,h1,fun j v hv => ?_,fun _ => rfl,fun hz => absurd rfl hz,fun e => by cases e⟩
  obtain ⟨k,_,rfl⟩ := List.mem_map.1 (List.mem_of_getElem? hv)
  refine .inr ⟨by simp [VOk],rfl,?_⟩
  simpa [ren] using hv
 | 2,hc =>
  cases hc
  refine ⟨_,_,_,h2,fun j v hv => ?_,fun _ => rfl,fun hz => absurd rfl hz,fun e => by cases e⟩
  match j,hv with
  | 0,hv =>
   cases hv
   exact .inr ⟨by simp [VOk],rfl,by simp [ren]⟩
theorem told_at {w : World} {m : Int} (h0 : 2 < w.heap.size) : PowAt (toldH (toldV w.heap.size m) gsz w) ∧ MaxAt (toldH (toldV w.heap.size m) gsz w) m ∧ ErrAt (toldH (toldV w.heap.size m) gsz w) :=
 ⟨toldH_lo (by omega),toldH_lo h0,w.heap.size,toldH_mid,toldH_lo (by omega)⟩
section
variable {H : Type} {enc : TypeId × Value → H} {W : World} {base : Nat}
theorem argT_str {t : TypeId} (u : prog.underlying t = some .string) {v : Value} {d : DataW H} {ps : List MemPlace} (hval : Value.okWide prog W .any base t v) (hd : DataW.Trod enc prog W 0 (fun _ => true) true t v d ps) : ∃ w : List UInt8,v = strV w ∧ ArgOk W v ∧ w.length ≤ maxLen := by
 obtain ⟨⟨⟨w⟩⟩,rfl,_,_,hl⟩ := Go.ChangeMaps.open_string u hval hd
 exact ⟨w,rfl,argOk_fine fun m => ⟨by simp [VOk],rfl,by simp [ren]⟩,hl⟩
end
section
variable {told : Nat → Option (List Value)} {g : Nat} {w : World}
theorem told_tal {v cv nv : Value} {t : Tal} (h : TalAt (absH w) v t cv nv) : TalAt (toldH told g w) (sub (shift w.heap.size) v) t (sub (shift w.heap.size) cv) (sub (shift w.heap.size) nv) := by
 refine ⟨?_,told_sli h.ch fun x hx => ?_,told_sli h.co fun x hx => ?_⟩
 ·rw [h.val]
  simp [sub,subA,subL,talCells]
 ·obtain ⟨r,_,hx⟩ := List.mem_flatMap.1 hx
  simp only [Rng.cells,List.mem_cons,List.not_mem_nil,or_false] at hx
  rcases hx with rfl | rfl <;> exact flat_int
 ·obtain ⟨r,_,hx⟩ := List.mem_flatMap.1 hx
  simp only [Cnt.cells,List.mem_cons,List.not_mem_nil,or_false] at hx
  rcases hx with rfl | rfl | rfl | rfl <;> exact flat_int
end
section
variable {H : Type} {enc : TypeId × Value → H} {W : World} {base : Nat}
theorem argT_byte {t : TypeId} (u : prog.underlying t = some (.int .u8)) {v : Value} {d : DataW H} {ps : List MemPlace} (hval : Value.okWide prog W .any base t v) (hd : DataW.Trod enc prog W 0 (fun _ => true) true t v d ps) : ∃ b : UInt8,v = .int .u8 b.toNat ∧ ArgOk W v := by
 obtain ⟨n,rfl,_,_,hw⟩ := open_int u hval hd
 have hn : 0 ≤ n ∧ n < 256 := by
  have e1 : IntKind.u8.min = 0 := rfl
  have e2 : IntKind.u8.max = 255 := rfl
  simp only [Lit.wf,Bool.and_eq_true,decide_eq_true_eq] at hw
  omega
 refine ⟨UInt8.ofNat n.toNat,?_,argOk_fine fun m => ⟨by simp [VOk],rfl,by simp [ren]⟩⟩
 rw [UInt8.toNat_ofNat',Nat.mod_eq_of_lt (by omega),Int.toNat_of_nonneg hn.1]
end
end Go.Proofs.YtlladcglhjlbpaaGreatDoor
namespace Go.Proofs.YtlladcglhjlbpaaGreatDoor
open Go Go.Conc Go.ChangeShapes Go.WideShapes Go.ChangeAt Go.RowKit Go.Proofs.Tryz
set_option maxRecDepth 100000
theorem lifted3 (os : Os) (started : os.Started) (H : Type) (enc : TypeId × Value → H) :
  ReturnsInHanded {} checked os 3 .any (fun w args => (Rows.tallyTextsSpec.pre enc prog f3 Rows.tallyTextsRow.domain false w args ∧ laidMetH prog laidL w) ∧ sizedMet enc prog f3 (OpenSpec.ofChange Rows.tallyTextsSpec) false w args) (Rows.tallyTextsSpec.post enc prog f3 false true false false) := by
 refine handed_told (C := checked) (X := fun w _ => laidMetH prog laidL w) own started at3
  (ChangeSpec.witness_at (enc := enc) (C := checked) (os := os) (X := fun w _ => laidMetH prog laidL w) false (laidWorld os #[.agg #[.int .i64 0,.int .i64 0,.int .i64 0,.slice none 0 0,.int .i64 0,.slice none 0 0],.string ⟨#[]⟩,.slice none 0 0,.int .i64 0,.int .i64 0,.int .u8 0]) #[.agg #[.int .i64 0,.int .i64 0,.int .i64 0,.slice none 0 0,.int .i64 0,.slice none 0 0],.string ⟨#[]⟩,.slice none 0 0,.int .i64 0,.int .i64 0,.int .u8 0] 8 rfl (by kernel_rfl) (by kernel_rfl) (by kernel_rfl) (by kernel_rfl) (by kernel_rfl)
   (laidMetH_of_parts (by rw [laid_split.2]; exact laidMet_of_run3 8 (by kernel_rfl) (by kernel_rfl) (by kernel_rfl)) (by rw [laid_split.1]; kernel_rfl))) ?_
 intro W base args ds gs before hsh hval0 hW _ hsz0 hlaid
 have hsz : (DataW.weightsEach prog (f3.params.toList ++ Rows.tallyTextsSpec.plain.varTypes prog) (ds ++ gs)).all (· ≤ reachBytes) = true := hsz0
 clear hsz0
 have hval : ∀ (j : Nat) t v,f3.params[j]? = some t → args[j]? = some v → Value.okWide prog W .any base t v := hval0
 have hW' := hW
 obtain ⟨p,q,hA0,hV,rfl,_,_⟩ := hW
 have hA : DataW.TrodAll enc prog W 0 (fun _ => true) true f3.params.toList args.toList ds p := hA0
 have hps : f3.params = #[27,9,28,3,3,5] := by kernel_rfl
 have uti : prog.underlying 28 = some (.slice 3) := by kernel_rfl
 have ui : prog.underlying 3 = some (.int .i64) := by kernel_rfl
 have uts : prog.underlying 9 = some .string := by kernel_rfl
 have ub : prog.underlying 5 = some (.int .u8) := by kernel_rfl
 have cti : prog.cellsOf 3 = 1 := by kernel_rfl
 have bti : prog.bytesOf 3 = 8 := by kernel_rfl
 rw [hps] at hA hval hsz
 obtain ⟨args⟩ := args
 obtain ⟨v0,vs0,d0,ds0,p0,q0,hvv0,hdd0,hpp0,h0,hA⟩ := trodAll_cons hA
 obtain ⟨v1,vs1,d1,ds1,p1,q1,hvv1,hdd1,hpp1,h1,hA⟩ := trodAll_cons hA
 obtain ⟨v2,vs2,d2,ds2,p2,q2,hvv2,hdd2,hpp2,h2,hA⟩ := trodAll_cons hA
 obtain ⟨v3,vs3,d3,ds3,p3,q3,hvv3,hdd3,hpp3,h3,hA⟩ := trodAll_cons hA
 obtain ⟨v4,vs4,d4,ds4,p4,q4,hvv4,hdd4,hpp4,h4,hA⟩ := trodAll_cons hA
 obtain ⟨v5,vs5,d5,ds5,p5,q5,hvv5,hdd5,hpp5,h5,hA⟩ := trodAll_cons hA
 obtain ⟨hvn,hdn,hpn⟩ := trodAll_nil hA
 subst hvn hdn hpn hvv5 hdd5 hpp5 hvv4 hdd4 hpp4 hvv3 hdd3 hpp3 hvv2 hdd2 hpp2 hvv1 hdd1 hpp1 hdd0 hpp0
 have hvv0 : args = [v0,v1,v2,v3,v4,v5] := hvv0
 subst hvv0
 obtain ⟨rfl,rfl⟩ := trodVars_none hV
 have u4 : prog.underlying 4 = some .bool := by kernel_rfl
 have hlt : ∀ x ∈ (p0 ++ (p1 ++ (p2 ++ (p3 ++ (p4 ++ (p5 ++ [])))))),x.block < W.heap.size := fun x hx => by simpa using hW'.lt x (by simpa using hx)
 have hargs : ∀ (W' : World),Below W.heap.size W W' → DataW.TrodAll enc prog W' 0 (fun b => decide (b < W.heap.size)) true [27,9,28,3,3,5] [v0,v1,v2,v3,v4,v5] [d0,d1,d2,d3,d4,d5] (p0 ++ (p1 ++ (p2 ++ (p3 ++ (p4 ++ (p5 ++ [])))))) := fun W' hn =>
  trodAll_mkc (Below.trod laidOut (by kernel_rfl) (of_decide_eq_true (by kernel_rfl)) h0 hn fun x hx => hlt x (by simp [hx])) (trodAll_mkc (Below.trod laidOut (by kernel_rfl) (of_decide_eq_true (by kernel_rfl)) h1 hn fun x hx => hlt x (by simp [hx])) (trodAll_mkc (Below.trod laidOut (by kernel_rfl) (of_decide_eq_true (by kernel_rfl)) h2 hn fun x hx => hlt x (by simp [hx])) (trodAll_mkc (Below.trod laidOut (by kernel_rfl) (of_decide_eq_true (by kernel_rfl)) h3 hn fun x hx => hlt x (by simp [hx])) (trodAll_mkc (Below.trod laidOut (by kernel_rfl) (of_decide_eq_true (by kernel_rfl)) h4 hn fun x hx => hlt x (by simp [hx])) (trodAll_mkc (Below.trod laidOut (by kernel_rfl) (of_decide_eq_true (by kernel_rfl)) h5 hn fun x hx => hlt x (by simp [hx])) (rfl))))))
 obtain ⟨t,ct,nt,T0,ok0⟩ := arg_tal (hval 0 27 v0 rfl rfl) h0
 obtain ⟨text,rfl,ok1,_⟩ := argT_str uts (hval 1 9 v1 rfl rfl) h1
 obtain ⟨ns,sn,ok2,hbig⟩ := arg_ints uti ui cti (hval 2 28 v2 rfl rfl) h2
 obtain ⟨at_,rfl,_⟩ := open_int ui (hval 3 3 v3 rfl rfl) h3
 obtain ⟨how,rfl,_⟩ := open_int ui (hval 4 3 v4 rfl rfl) h4
 obtain ⟨b,rfl,ok5⟩ := argT_byte ub (hval 5 5 v5 rfl rfl) h5
 have hln : ns.length < 4611686018427387904 := by
  rcases hbig with rfl | ⟨es,sp,rfl,hle⟩
  ·simp
  ·have := sized_slice hsz (j := 2) (t := 28) (e := 3) rfl rfl uti
   rw [bti] at this
   simp only [reachBytes] at this
   omega
 have hlaid : laidMetH prog laidL W.memory := hlaid
 obtain ⟨t0,f0,w0⟩ := err_cells hlaid
 obtain ⟨t1,f1,w1⟩ := pow_cells hlaid
 have w0 : W.heap[0]? = _ := w0
 have w1 : W.heap[1]? = _ := w1
 obtain ⟨m,t2,f2,w2⟩ := max_cells hsh
 have hh2 : 2 < W.heap.size := (Array.getElem?_eq_some_iff.1 w2).1
 obtain ⟨hpow,hmax,herr⟩ := told_at (m := m) hh2
 obtain ⟨M,last,o,w',t',r1,r2,r3,r4,r5⟩ := law_runT (w := W) (f := 3) (fn := f3) at3 body3 (by kernel_rfl) [v0,strV text,v2,vint at_,vint how,.int .u8 b.toNat] (Nat.le_of_ble_eq_true (by kernel_rfl : Nat.ble 6 f3.ntmps = true))
  (by
   intro v hv
   simp only [List.mem_cons,List.not_mem_nil,or_false] at hv
   rcases hv with rfl | rfl | rfl | rfl | rfl | rfl
   ·exact ok0
   ·exact ok1
   ·exact ok2
   ·exact argOk_int
   ·exact argOk_int
   ·exact ok5)
  (toldV_ok (m := m) w0 w1 w2)
  (fun J hJ hT => walk3 (K := fun v _ => v = .bool true) hJ hT hpow hmax herr (told_tal T0) (told_ints sn) hln fun _ => rfl)
 refine ⟨M,last,o,w',t',r1,r2,r3,r4.mono fun v hF => ?_,r5⟩
 obtain ⟨rfl,hbelow⟩ := hF
 refine ⟨_,_,_,[],_,[],hW',?_,hargs _ hbelow,by rfl,hbelow.frame _,fun h => by cases h⟩
 exact trodAll_mk1 (shut_bool u4 true)
theorem tallyTexts_row : Rows.TallyTextsSaid :=
 OpenClaim.holds_of_wide 3 f3 rfl rfl rfl rfl rfl rfl rfl ⟨rfl,rfl,rfl,rfl,rfl⟩ rfl rfl rfl rfl rfl (by kernel_rfl) at3 (by kernel_rfl)
  (of_decide_eq_true (by kernel_rfl)) (by unfold Func.isWrapper; first | (rw [if_pos (by decide +kernel)]; kernel_rfl) | (rw [if_neg (by decide +kernel)]; exact ⟨rfl,rfl⟩))
  (fun os started H enc _ => lifted3 os started H enc)
theorem tallyTexts_holds : Rows.TallyTextsCardSaid :=
 Claim7.holds_tied_plain_at .later [] [.data, .data, .data, .data, .handle, .pinned] true (true, "b70f4b02dab30b3e64671d912189c259e76e199408126a01a031428d8cc758a5") true
  tallyTexts_row (fun _ h => by cases h) (by kernel_rfl) (fun _ h => by cases h) tallyTexts_row_tie rfl ⟨rfl,rfl⟩ (by kernel_rfl) rfl
  (fun f fn hf hfn => by
   have e : Tryz.prog.funcNamed "mesta/mestalaw05.TallyTexts" = some 3 := by kernel_rfl
   obtain rfl : f = 3 := (Option.some.inj (e.symm.trans hf)).symm
   obtain rfl : fn = f3 := (Option.some.inj (at3.symm.trans hfn)).symm
   exact ⟨by kernel_rfl,fun j t ht => by
    have e0 : Tryz.f3.params = #[27,9,28,3,3,5] := by kernel_rfl
    rw [e0] at ht
    rcases j with _ | _ | _ | _ | _ | _ | j
    ·cases ht
     exact (by kernel_rfl : Tryz.prog.wantsStandIn 27 = false)
    ·cases ht
     exact (by kernel_rfl : Tryz.prog.wantsStandIn 9 = false)
    ·cases ht
     exact (by kernel_rfl : Tryz.prog.wantsStandIn 28 = false)
    ·cases ht
     exact (by kernel_rfl : Tryz.prog.wantsStandIn 3 = false)
    ·cases ht
     exact (by kernel_rfl : Tryz.prog.wantsStandIn 3 = false)
    ·cases ht
     exact (by kernel_rfl : Tryz.prog.wantsStandIn 5 = false)
    ·simp at ht⟩)
  (by kernel_rfl)
#print axioms tallyTexts_holds
end Go.Proofs.YtlladcglhjlbpaaGreatDoor
