/- Parts of the proof, 3. No conditions. -/
import Derived.Test.YtdgpacdknpahnaaK2

/- Printed by program: the forms to which the bodies of some functions come down. No conditions. -/
namespace Go.Proofs.Ytdgpacdknpahnaa
open Go.Conc Go.Proofs.Try
set_option maxRecDepth 100000
set_option linter.unusedVariables false
section
variable {main : Bool} {J : JT} {n0 : Nat} {h : List AObj} {K : Value → List AObj → Prop}
theorem at9 : prog.funcs[9]? = some f9 := by kernel_rfl
theorem body9 : f9.body = some (codeOf f9) := by kernel_rfl
theorem e9 {a0 : Value} : W prog J 192 h.length 9 (codeOf f9) (RG.mk (regs [a0]) []) h (RetQ prog [.tmp 2] h.length K) =
(Good prog J 19 [a0] h fun v1 h2 =>
Good prog J 28 [v1, (vint 5), (vint 4)] h2 fun v3 h4 =>
aAlloc [(vint 0), (vint 0), (vint 0), (Value.slice none 0 0), (vint 0), (Value.slice none 0 0)] h4 fun v5 h6 =>
aStore 6 v5 v3 h6 fun h7 =>
Good prog J 22 [v1, (vint 6)] h7 fun v8 h9 =>
aLoad true 6 v5 h9 fun v10 =>
Good prog J 41 [v10, v8] h9 fun v11 h12 =>
aExt v11 0 fun v13 =>
aExt v11 1 fun v14 =>
aLoad true 6 v5 h12 fun v15 =>
Good prog J 30 [v15] h12 fun v16 h17 =>
aExt v16 0 fun v18 =>
aExt v16 1 fun v19 =>
aBin prog .neq 32 v19 (vint 0) fun v20 =>
cnd v20
(aBin prog .eql 32 v19 (vint 11) fun v21 =>
cnd v21
(aBin prog .eql 32 v14 (vint 11) fun v22 =>
cnd v22
(Good prog J 18 [] h17 fun v23 h24 =>
retL h.length K [] [v23] h24)
(retL h.length K [] [(Value.bool false)] h17))
(cnd (Value.bool false)
(Good prog J 18 [] h17 fun v25 h26 =>
retL h.length K [] [v25] h26)
(retL h.length K [] [(Value.bool false)] h17)))
(Sem J 192 h.length 9 (subC [1, 1, 1, 1, 1, 1, 1, 0, 1, 0] (codeOf f9)) ((((((((((((((((((((((((((((((RG.mk (regs [a0]) []).put 2 (Value.bool false)).put 20 a0).put 21 v1).put 3 v1).put 22 v1).put 23 v3).put 4 v5).put 24 v1).put 25 v8).put 5 v8).put 27 v10).put 28 v8).put 29 v11).put 26 v11).put 30 v13).put 31 v14).put 6 v13).put 7 v14).put 33 v15).put 34 v16).put 32 v16).put 35 v18).put 36 v19).put 8 v18).put 9 v19).put 37 v19).put 38 v20).put 10 (vint (-1))).put 11 (vint 0)) h17 (contQ prog J 192 h.length 9 [1, 1, 1, 1, 1, 1, 1, 0, 1, 0] (codeOf f9) [] (RetQ prog [.tmp 2] h.length K)))) := by kernel_rfl
theorem g9 (hJ : Closed prog main J) {a0 : Value} (hs : heapOk h → W prog J 192 h.length 9 (codeOf f9) (RG.mk (regs [a0]) []) h (RetQ prog [.tmp 2] h.length K)) : Good prog J 9 [a0] h K :=
  good_of_W hJ mixed at9 body9 (by kernel_rfl) (Nat.le_of_ble_eq_true rfl) hs
-- loop [1, 1, 1, 1, 1, 1, 1, 0, 1, 0, 0]
theorem s9_1 {f : RG} {nx0 : RG → List AObj → Prop} : W prog J 192 n0 9 (subC [1, 1, 1, 1, 1, 1, 1, 0, 1, 0, 0] (codeOf f9)) f h (thenK nx0 (contQ prog J 192 n0 9 [1, 1, 1, 1, 1, 1, 1, 0, 1, 0] (codeOf f9) [] (RetQ prog [.tmp 2] n0 K))) =
(aOff (f.r 4) 0 fun v1 =>
aLoad false 1 v1 h fun v2 =>
aBin prog .lss 3 (f.r 11) v2 fun v3 =>
cnd v3
(aBin prog .add 3 (f.r 11) (vint 1) fun v4 =>
Sem J 192 n0 9 (subC [1, 1, 1, 1, 1, 1, 1, 0, 1, 0, 0, 1, 0, 0, 1, 0] (codeOf f9)) (((((((f.put 48 (f.r 11)).put 49 v1).put 50 v2).put 51 v3).put 54 (f.r 11)).put 55 v4).put 12 v4) h (contQ prog J 192 n0 9 [1, 1, 1, 1, 1, 1, 1, 0, 1, 0, 0, 1, 0, 0, 1, 0] (codeOf f9) [nx0] (RetQ prog [.tmp 2] n0 K)))
(aBin prog .eql 3 (f.r 5) (vint 0) fun v5 =>
cnd v5
(aBin prog .lss 3 (vint 0) (vint 0) fun v6 =>
aBin prog .eql 32 (f.r 7) (vint 11) fun v7 =>
aBin prog .eql 4 v6 v7 fun v8 =>
cnd v8
(aBin prog .lss 3 (vint 0) (vint 0) fun v9 =>
cnd v9
(cnd (Value.bool true)
(Good prog J 18 [] h fun v10 h11 =>
retL n0 K f.ds [v10] h11)
(retL n0 K f.ds [(Value.bool false)] h))
(aBin prog .eql 32 (f.r 7) (vint 0) fun v12 =>
cnd v12
(aBin prog .eql 3 (f.r 6) (vint 0) fun v13 =>
cnd v13
(Good prog J 18 [] h fun v14 h15 =>
retL n0 K f.ds [v14] h15)
(retL n0 K f.ds [(Value.bool false)] h))
(cnd (Value.bool false)
(Good prog J 18 [] h fun v16 h17 =>
retL n0 K f.ds [v16] h17)
(retL n0 K f.ds [(Value.bool false)] h))))
(cnd (Value.bool false)
(Good prog J 18 [] h fun v18 h19 =>
retL n0 K f.ds [v18] h19)
(retL n0 K f.ds [(Value.bool false)] h)))
(aBin prog .lss 3 (f.r 10) (vint 0) fun v20 =>
aBin prog .eql 32 (f.r 7) (vint 11) fun v21 =>
aBin prog .eql 4 v20 v21 fun v22 =>
cnd v22
(aBin prog .lss 3 (f.r 10) (vint 0) fun v23 =>
cnd v23
(cnd (Value.bool true)
(Good prog J 18 [] h fun v24 h25 =>
retL n0 K f.ds [v24] h25)
(retL n0 K f.ds [(Value.bool false)] h))
(aBin prog .eql 32 (f.r 7) (vint 0) fun v26 =>
cnd v26
(aBin prog .eql 3 (f.r 6) (f.r 10) fun v27 =>
cnd v27
(Good prog J 18 [] h fun v28 h29 =>
retL n0 K f.ds [v28] h29)
(retL n0 K f.ds [(Value.bool false)] h))
(cnd (Value.bool false)
(Good prog J 18 [] h fun v30 h31 =>
retL n0 K f.ds [v30] h31)
(retL n0 K f.ds [(Value.bool false)] h))))
(cnd (Value.bool false)
(Good prog J 18 [] h fun v32 h33 =>
retL n0 K f.ds [v32] h33)
(retL n0 K f.ds [(Value.bool false)] h))))) := by kernel_rfl
theorem l9_1 (hJ : Closed prog main J) {S : Type} (μ : S → Nat) (I : S → RG → List AObj → Prop) (hI : ∀ s f h, I s f h → heapOk h → n0 ≤ h.length → W prog J 192 n0 9 (subC [1, 1, 1, 1, 1, 1, 1, 0, 1, 0, 0] (codeOf f9)) f h (thenK (Nx n0 μ I s) (contQ prog J 192 n0 9 [1, 1, 1, 1, 1, 1, 1, 0, 1, 0] (codeOf f9) [] (RetQ prog [.tmp 2] n0 K))))
  {s : S} {f : RG} (hi : Gets n0 I s f h) : Sem J 192 n0 9 (subC [1, 1, 1, 1, 1, 1, 1, 0, 1, 0] (codeOf f9)) f h (contQ prog J 192 n0 9 [1, 1, 1, 1, 1, 1, 1, 0, 1, 0] (codeOf f9) [] (RetQ prog [.tmp 2] n0 K)) :=
  loop_rule hJ mixed (b := subC [1, 1, 1, 1, 1, 1, 1, 0, 1, 0, 0] (codeOf f9)) (by kernel_rfl) μ I hI hi
-- loop [1, 1, 1, 1, 1, 1, 1, 0, 1, 0, 0, 1, 0, 0, 1, 0, 0]
theorem s9_2 {f : RG} {nx0 nx1 : RG → List AObj → Prop} : W prog J 192 n0 9 (subC [1, 1, 1, 1, 1, 1, 1, 0, 1, 0, 0, 1, 0, 0, 1, 0, 0] (codeOf f9)) f h (thenK nx1 (contQ prog J 192 n0 9 [1, 1, 1, 1, 1, 1, 1, 0, 1, 0, 0, 1, 0, 0, 1, 0] (codeOf f9) [nx0] (RetQ prog [.tmp 2] n0 K))) =
(aOff (f.r 4) 0 fun v1 =>
aLoad false 1 v1 h fun v2 =>
aBin prog .lss 3 (f.r 12) v2 fun v3 =>
cnd v3
(aLoad true 6 (f.r 4) h fun v4 =>
Good prog J 31 [v4, (f.r 11), (f.r 12)] h fun v5 h6 =>
aExt v5 0 fun v7 =>
aExt v5 1 fun v8 =>
aAlloc [(vint 0), (vint 0)] h6 fun v9 h10 =>
aStore 2 v9 v7 h10 fun h11 =>
aBin prog .neq 32 v8 (vint 0) fun v12 =>
cnd v12
(cnd (Value.bool true)
(cnd (Value.bool true)
(cnd (Value.bool true)
(retL n0 K f.ds [(Value.bool false)] h11)
(aBin prog .eql 3 (f.r 11) (vint 0) fun v13 =>
cnd v13
(aBin prog .lss 3 (f.r 10) (vint 0) fun v14 =>
cnd v14
(aOff v9 0 fun v15 =>
aLoad false 1 v15 h11 fun v16 =>
aBin prog .geq 3 v16 (f.r 5) fun v17 =>
cnd v17
(aBin prog .add 3 (f.r 12) (vint 1) fun v18 =>
Sem J 192 n0 9 (subC [1, 1, 1, 1, 1, 1, 1, 0, 1, 0, 0, 1, 0, 0, 1, 0, 0, 1, 0, 0, 1, 1, 1, 1, 0] (codeOf f9)) ((((((((((((((((((((((((((((((((((((((((((((((((((((((((((((f.put 56 (f.r 12)).put 57 v1).put 58 v2).put 59 v3).put 63 v4).put 64 (f.r 11)).put 65 (f.r 12)).put 66 v5).put 62 v5).put 67 v7).put 68 v8).put 13 v9).put 14 v8).put 69 v8).put 70 v12).put 71 v12).put 71 (Value.bool true)).put 72 undef).put 73 undef).put 74 undef).put 75 (Value.bool true)).put 76 (Value.bool true)).put 76 (Value.bool true)).put 77 undef).put 78 undef).put 79 undef).put 80 undef).put 81 undef).put 82 (Value.bool true)).put 83 (Value.bool true)).put 83 (Value.bool true)).put 84 undef).put 85 undef).put 86 undef).put 87 undef).put 88 undef).put 89 undef).put 90 undef).put 91 undef).put 92 undef).put 93 (Value.bool true)).put 94 (f.r 11)).put 95 v13).put 96 v13).put 96 (Value.bool true)).put 97 (f.r 10)).put 98 v14).put 99 v14).put 100 v14).put 100 (Value.bool true)).put 101 v15).put 102 v16).put 103 (f.r 5)).put 104 v17).put 105 v17).put 106 (f.r 12)).put 10 (f.r 12)).put 107 (f.r 12)).put 108 v18).put 15 v18) h11 (contQ prog J 192 n0 9 [1, 1, 1, 1, 1, 1, 1, 0, 1, 0, 0, 1, 0, 0, 1, 0, 0, 1, 0, 0, 1, 1, 1, 1, 0] (codeOf f9) [nx0, nx1] (RetQ prog [.tmp 2] n0 K)))
(aBin prog .add 3 (f.r 12) (vint 1) fun v19 =>
Sem J 192 n0 9 (subC [1, 1, 1, 1, 1, 1, 1, 0, 1, 0, 0, 1, 0, 0, 1, 0, 0, 1, 0, 0, 1, 1, 1, 1, 0] (codeOf f9)) ((((((((((((((((((((((((((((((((((((((((((((((((((((((((((f.put 56 (f.r 12)).put 57 v1).put 58 v2).put 59 v3).put 63 v4).put 64 (f.r 11)).put 65 (f.r 12)).put 66 v5).put 62 v5).put 67 v7).put 68 v8).put 13 v9).put 14 v8).put 69 v8).put 70 v12).put 71 v12).put 71 (Value.bool true)).put 72 undef).put 73 undef).put 74 undef).put 75 (Value.bool true)).put 76 (Value.bool true)).put 76 (Value.bool true)).put 77 undef).put 78 undef).put 79 undef).put 80 undef).put 81 undef).put 82 (Value.bool true)).put 83 (Value.bool true)).put 83 (Value.bool true)).put 84 undef).put 85 undef).put 86 undef).put 87 undef).put 88 undef).put 89 undef).put 90 undef).put 91 undef).put 92 undef).put 93 (Value.bool true)).put 94 (f.r 11)).put 95 v13).put 96 v13).put 96 (Value.bool true)).put 97 (f.r 10)).put 98 v14).put 99 v14).put 100 v14).put 100 (Value.bool true)).put 101 v15).put 102 v16).put 103 (f.r 5)).put 104 v17).put 105 v17).put 107 (f.r 12)).put 108 v19).put 15 v19) h11 (contQ prog J 192 n0 9 [1, 1, 1, 1, 1, 1, 1, 0, 1, 0, 0, 1, 0, 0, 1, 0, 0, 1, 0, 0, 1, 1, 1, 1, 0] (codeOf f9) [nx0, nx1] (RetQ prog [.tmp 2] n0 K))))
(cnd (Value.bool false)
(aBin prog .add 3 (f.r 12) (vint 1) fun v20 =>
Sem J 192 n0 9 (subC [1, 1, 1, 1, 1, 1, 1, 0, 1, 0, 0, 1, 0, 0, 1, 0, 0, 1, 0, 0, 1, 1, 1, 1, 0] (codeOf f9)) ((((((((((((((((((((((((((((((((((((((((((((((((((((((((((((f.put 56 (f.r 12)).put 57 v1).put 58 v2).put 59 v3).put 63 v4).put 64 (f.r 11)).put 65 (f.r 12)).put 66 v5).put 62 v5).put 67 v7).put 68 v8).put 13 v9).put 14 v8).put 69 v8).put 70 v12).put 71 v12).put 71 (Value.bool true)).put 72 undef).put 73 undef).put 74 undef).put 75 (Value.bool true)).put 76 (Value.bool true)).put 76 (Value.bool true)).put 77 undef).put 78 undef).put 79 undef).put 80 undef).put 81 undef).put 82 (Value.bool true)).put 83 (Value.bool true)).put 83 (Value.bool true)).put 84 undef).put 85 undef).put 86 undef).put 87 undef).put 88 undef).put 89 undef).put 90 undef).put 91 undef).put 92 undef).put 93 (Value.bool true)).put 94 (f.r 11)).put 95 v13).put 96 v13).put 96 (Value.bool true)).put 97 (f.r 10)).put 98 v14).put 99 v14).put 100 v14).put 100 (Value.bool false)).put 101 undef).put 102 undef).put 103 undef).put 104 undef).put 105 (Value.bool false)).put 106 (f.r 12)).put 10 (f.r 12)).put 107 (f.r 12)).put 108 v20).put 15 v20) h11 (contQ prog J 192 n0 9 [1, 1, 1, 1, 1, 1, 1, 0, 1, 0, 0, 1, 0, 0, 1, 0, 0, 1, 0, 0, 1, 1, 1, 1, 0] (codeOf f9) [nx0, nx1] (RetQ prog [.tmp 2] n0 K)))
(aBin prog .add 3 (f.r 12) (vint 1) fun v21 =>
Sem J 192 n0 9 (subC [1, 1, 1, 1, 1, 1, 1, 0, 1, 0, 0, 1, 0, 0, 1, 0, 0, 1, 0, 0, 1, 1, 1, 1, 0] (codeOf f9)) ((((((((((((((((((((((((((((((((((((((((((((((((((((((((((f.put 56 (f.r 12)).put 57 v1).put 58 v2).put 59 v3).put 63 v4).put 64 (f.r 11)).put 65 (f.r 12)).put 66 v5).put 62 v5).put 67 v7).put 68 v8).put 13 v9).put 14 v8).put 69 v8).put 70 v12).put 71 v12).put 71 (Value.bool true)).put 72 undef).put 73 undef).put 74 undef).put 75 (Value.bool true)).put 76 (Value.bool true)).put 76 (Value.bool true)).put 77 undef).put 78 undef).put 79 undef).put 80 undef).put 81 undef).put 82 (Value.bool true)).put 83 (Value.bool true)).put 83 (Value.bool true)).put 84 undef).put 85 undef).put 86 undef).put 87 undef).put 88 undef).put 89 undef).put 90 undef).put 91 undef).put 92 undef).put 93 (Value.bool true)).put 94 (f.r 11)).put 95 v13).put 96 v13).put 96 (Value.bool true)).put 97 (f.r 10)).put 98 v14).put 99 v14).put 100 v14).put 100 (Value.bool false)).put 101 undef).put 102 undef).put 103 undef).put 104 undef).put 105 (Value.bool false)).put 107 (f.r 12)).put 108 v21).put 15 v21) h11 (contQ prog J 192 n0 9 [1, 1, 1, 1, 1, 1, 1, 0, 1, 0, 0, 1, 0, 0, 1, 0, 0, 1, 0, 0, 1, 1, 1, 1, 0] (codeOf f9) [nx0, nx1] (RetQ prog [.tmp 2] n0 K)))))
(cnd (Value.bool false)
(aOff v9 0 fun v22 =>
aLoad false 1 v22 h11 fun v23 =>
aBin prog .geq 3 v23 (f.r 5) fun v24 =>
cnd v24
(aBin prog .add 3 (f.r 12) (vint 1) fun v25 =>
Sem J 192 n0 9 (subC [1, 1, 1, 1, 1, 1, 1, 0, 1, 0, 0, 1, 0, 0, 1, 0, 0, 1, 0, 0, 1, 1, 1, 1, 0] (codeOf f9)) ((((((((((((((((((((((((((((((((((((((((((((((((((((((((((((f.put 56 (f.r 12)).put 57 v1).put 58 v2).put 59 v3).put 63 v4).put 64 (f.r 11)).put 65 (f.r 12)).put 66 v5).put 62 v5).put 67 v7).put 68 v8).put 13 v9).put 14 v8).put 69 v8).put 70 v12).put 71 v12).put 71 (Value.bool true)).put 72 undef).put 73 undef).put 74 undef).put 75 (Value.bool true)).put 76 (Value.bool true)).put 76 (Value.bool true)).put 77 undef).put 78 undef).put 79 undef).put 80 undef).put 81 undef).put 82 (Value.bool true)).put 83 (Value.bool true)).put 83 (Value.bool true)).put 84 undef).put 85 undef).put 86 undef).put 87 undef).put 88 undef).put 89 undef).put 90 undef).put 91 undef).put 92 undef).put 93 (Value.bool true)).put 94 (f.r 11)).put 95 v13).put 96 v13).put 96 (Value.bool false)).put 97 undef).put 98 undef).put 99 (Value.bool false)).put 100 (Value.bool false)).put 100 (Value.bool true)).put 101 v22).put 102 v23).put 103 (f.r 5)).put 104 v24).put 105 v24).put 106 (f.r 12)).put 10 (f.r 12)).put 107 (f.r 12)).put 108 v25).put 15 v25) h11 (contQ prog J 192 n0 9 [1, 1, 1, 1, 1, 1, 1, 0, 1, 0, 0, 1, 0, 0, 1, 0, 0, 1, 0, 0, 1, 1, 1, 1, 0] (codeOf f9) [nx0, nx1] (RetQ prog [.tmp 2] n0 K)))
(aBin prog .add 3 (f.r 12) (vint 1) fun v26 =>
Sem J 192 n0 9 (subC [1, 1, 1, 1, 1, 1, 1, 0, 1, 0, 0, 1, 0, 0, 1, 0, 0, 1, 0, 0, 1, 1, 1, 1, 0] (codeOf f9)) ((((((((((((((((((((((((((((((((((((((((((((((((((((((((((f.put 56 (f.r 12)).put 57 v1).put 58 v2).put 59 v3).put 63 v4).put 64 (f.r 11)).put 65 (f.r 12)).put 66 v5).put 62 v5).put 67 v7).put 68 v8).put 13 v9).put 14 v8).put 69 v8).put 70 v12).put 71 v12).put 71 (Value.bool true)).put 72 undef).put 73 undef).put 74 undef).put 75 (Value.bool true)).put 76 (Value.bool true)).put 76 (Value.bool true)).put 77 undef).put 78 undef).put 79 undef).put 80 undef).put 81 undef).put 82 (Value.bool true)).put 83 (Value.bool true)).put 83 (Value.bool true)).put 84 undef).put 85 undef).put 86 undef).put 87 undef).put 88 undef).put 89 undef).put 90 undef).put 91 undef).put 92 undef).put 93 (Value.bool true)).put 94 (f.r 11)).put 95 v13).put 96 v13).put 96 (Value.bool false)).put 97 undef).put 98 undef).put 99 (Value.bool false)).put 100 (Value.bool false)).put 100 (Value.bool true)).put 101 v22).put 102 v23).put 103 (f.r 5)).put 104 v24).put 105 v24).put 107 (f.r 12)).put 108 v26).put 15 v26) h11 (contQ prog J 192 n0 9 [1, 1, 1, 1, 1, 1, 1, 0, 1, 0, 0, 1, 0, 0, 1, 0, 0, 1, 0, 0, 1, 1, 1, 1, 0] (codeOf f9) [nx0, nx1] (RetQ prog [.tmp 2] n0 K))))
(cnd (Value.bool false)
(aBin prog .add 3 (f.r 12) (vint 1) fun v27 =>
Sem J 192 n0 9 (subC [1, 1, 1, 1, 1, 1, 1, 0, 1, 0, 0, 1, 0, 0, 1, 0, 0, 1, 0, 0, 1, 1, 1, 1, 0] (codeOf f9)) ((((((((((((((((((((((((((((((((((((((((((((((((((((((((((((f.put 56 (f.r 12)).put 57 v1).put 58 v2).put 59 v3).put 63 v4).put 64 (f.r 11)).put 65 (f.r 12)).put 66 v5).put 62 v5).put 67 v7).put 68 v8).put 13 v9).put 14 v8).put 69 v8).put 70 v12).put 71 v12).put 71 (Value.bool true)).put 72 undef).put 73 undef).put 74 undef).put 75 (Value.bool true)).put 76 (Value.bool true)).put 76 (Value.bool true)).put 77 undef).put 78 undef).put 79 undef).put 80 undef).put 81 undef).put 82 (Value.bool true)).put 83 (Value.bool true)).put 83 (Value.bool true)).put 84 undef).put 85 undef).put 86 undef).put 87 undef).put 88 undef).put 89 undef).put 90 undef).put 91 undef).put 92 undef).put 93 (Value.bool true)).put 94 (f.r 11)).put 95 v13).put 96 v13).put 96 (Value.bool false)).put 97 undef).put 98 undef).put 99 (Value.bool false)).put 100 (Value.bool false)).put 100 (Value.bool false)).put 101 undef).put 102 undef).put 103 undef).put 104 undef).put 105 (Value.bool false)).put 106 (f.r 12)).put 10 (f.r 12)).put 107 (f.r 12)).put 108 v27).put 15 v27) h11 (contQ prog J 192 n0 9 [1, 1, 1, 1, 1, 1, 1, 0, 1, 0, 0, 1, 0, 0, 1, 0, 0, 1, 0, 0, 1, 1, 1, 1, 0] (codeOf f9) [nx0, nx1] (RetQ prog [.tmp 2] n0 K)))
(aBin prog .add 3 (f.r 12) (vint 1) fun v28 =>
Sem J 192 n0 9 (subC [1, 1, 1, 1, 1, 1, 1, 0, 1, 0, 0, 1, 0, 0, 1, 0, 0, 1, 0, 0, 1, 1, 1, 1, 0] (codeOf f9)) ((((((((((((((((((((((((((((((((((((((((((((((((((((((((((f.put 56 (f.r 12)).put 57 v1).put 58 v2).put 59 v3).put 63 v4).put 64 (f.r 11)).put 65 (f.r 12)).put 66 v5).put 62 v5).put 67 v7).put 68 v8).put 13 v9).put 14 v8).put 69 v8).put 70 v12).put 71 v12).put 71 (Value.bool true)).put 72 undef).put 73 undef).put 74 undef).put 75 (Value.bool true)).put 76 (Value.bool true)).put 76 (Value.bool true)).put 77 undef).put 78 undef).put 79 undef).put 80 undef).put 81 undef).put 82 (Value.bool true)).put 83 (Value.bool true)).put 83 (Value.bool true)).put 84 undef).put 85 undef).put 86 undef).put 87 undef).put 88 undef).put 89 undef).put 90 undef).put 91 undef).put 92 undef).put 93 (Value.bool true)).put 94 (f.r 11)).put 95 v13).put 96 v13).put 96 (Value.bool false)).put 97 undef).put 98 undef).put 99 (Value.bool false)).put 100 (Value.bool false)).put 100 (Value.bool false)).put 101 undef).put 102 undef).put 103 undef).put 104 undef).put 105 (Value.bool false)).put 107 (f.r 12)).put 108 v28).put 15 v28) h11 (contQ prog J 192 n0 9 [1, 1, 1, 1, 1, 1, 1, 0, 1, 0, 0, 1, 0, 0, 1, 0, 0, 1, 0, 0, 1, 1, 1, 1, 0] (codeOf f9) [nx0, nx1] (RetQ prog [.tmp 2] n0 K)))))))
(aOff v9 1 fun v29 =>
aLoad false 1 v29 h11 fun v30 =>
aOff (f.r 4) 4 fun v31 =>
aLoad false 1 v31 h11 fun v32 =>
aBin prog .sub 3 (f.r 12) (f.r 11) fun v33 =>
aBin prog .mul 3 v32 v33 fun v34 =>
aBin prog .gtr 3 v30 v34 fun v35 =>
cnd v35
(retL n0 K f.ds [(Value.bool false)] h11)
(aBin prog .eql 3 (f.r 11) (vint 0) fun v36 =>
cnd v36
(aBin prog .lss 3 (f.r 10) (vint 0) fun v37 =>
cnd v37
(aOff v9 0 fun v38 =>
aLoad false 1 v38 h11 fun v39 =>
aBin prog .geq 3 v39 (f.r 5) fun v40 =>
cnd v40
(aBin prog .add 3 (f.r 12) (vint 1) fun v41 =>
Sem J 192 n0 9 (subC [1, 1, 1, 1, 1, 1, 1, 0, 1, 0, 0, 1, 0, 0, 1, 0, 0, 1, 0, 0, 1, 1, 1, 1, 0] (codeOf f9)) ((((((((((((((((((((((((((((((((((((((((((((((((((((((((((((f.put 56 (f.r 12)).put 57 v1).put 58 v2).put 59 v3).put 63 v4).put 64 (f.r 11)).put 65 (f.r 12)).put 66 v5).put 62 v5).put 67 v7).put 68 v8).put 13 v9).put 14 v8).put 69 v8).put 70 v12).put 71 v12).put 71 (Value.bool true)).put 72 undef).put 73 undef).put 74 undef).put 75 (Value.bool true)).put 76 (Value.bool true)).put 76 (Value.bool true)).put 77 undef).put 78 undef).put 79 undef).put 80 undef).put 81 undef).put 82 (Value.bool true)).put 83 (Value.bool true)).put 83 (Value.bool false)).put 84 v29).put 85 v30).put 86 v31).put 87 v32).put 88 (f.r 12)).put 89 (f.r 11)).put 90 v33).put 91 v34).put 92 v35).put 93 v35).put 94 (f.r 11)).put 95 v36).put 96 v36).put 96 (Value.bool true)).put 97 (f.r 10)).put 98 v37).put 99 v37).put 100 v37).put 100 (Value.bool true)).put 101 v38).put 102 v39).put 103 (f.r 5)).put 104 v40).put 105 v40).put 106 (f.r 12)).put 10 (f.r 12)).put 107 (f.r 12)).put 108 v41).put 15 v41) h11 (contQ prog J 192 n0 9 [1, 1, 1, 1, 1, 1, 1, 0, 1, 0, 0, 1, 0, 0, 1, 0, 0, 1, 0, 0, 1, 1, 1, 1, 0] (codeOf f9) [nx0, nx1] (RetQ prog [.tmp 2] n0 K)))
(aBin prog .add 3 (f.r 12) (vint 1) fun v42 =>
Sem J 192 n0 9 (subC [1, 1, 1, 1, 1, 1, 1, 0, 1, 0, 0, 1, 0, 0, 1, 0, 0, 1, 0, 0, 1, 1, 1, 1, 0] (codeOf f9)) ((((((((((((((((((((((((((((((((((((((((((((((((((((((((((f.put 56 (f.r 12)).put 57 v1).put 58 v2).put 59 v3).put 63 v4).put 64 (f.r 11)).put 65 (f.r 12)).put 66 v5).put 62 v5).put 67 v7).put 68 v8).put 13 v9).put 14 v8).put 69 v8).put 70 v12).put 71 v12).put 71 (Value.bool true)).put 72 undef).put 73 undef).put 74 undef).put 75 (Value.bool true)).put 76 (Value.bool true)).put 76 (Value.bool true)).put 77 undef).put 78 undef).put 79 undef).put 80 undef).put 81 undef).put 82 (Value.bool true)).put 83 (Value.bool true)).put 83 (Value.bool false)).put 84 v29).put 85 v30).put 86 v31).put 87 v32).put 88 (f.r 12)).put 89 (f.r 11)).put 90 v33).put 91 v34).put 92 v35).put 93 v35).put 94 (f.r 11)).put 95 v36).put 96 v36).put 96 (Value.bool true)).put 97 (f.r 10)).put 98 v37).put 99 v37).put 100 v37).put 100 (Value.bool true)).put 101 v38).put 102 v39).put 103 (f.r 5)).put 104 v40).put 105 v40).put 107 (f.r 12)).put 108 v42).put 15 v42) h11 (contQ prog J 192 n0 9 [1, 1, 1, 1, 1, 1, 1, 0, 1, 0, 0, 1, 0, 0, 1, 0, 0, 1, 0, 0, 1, 1, 1, 1, 0] (codeOf f9) [nx0, nx1] (RetQ prog [.tmp 2] n0 K))))
(cnd (Value.bool false)
(aBin prog .add 3 (f.r 12) (vint 1) fun v43 =>
Sem J 192 n0 9 (subC [1, 1, 1, 1, 1, 1, 1, 0, 1, 0, 0, 1, 0, 0, 1, 0, 0, 1, 0, 0, 1, 1, 1, 1, 0] (codeOf f9)) ((((((((((((((((((((((((((((((((((((((((((((((((((((((((((((f.put 56 (f.r 12)).put 57 v1).put 58 v2).put 59 v3).put 63 v4).put 64 (f.r 11)).put 65 (f.r 12)).put 66 v5).put 62 v5).put 67 v7).put 68 v8).put 13 v9).put 14 v8).put 69 v8).put 70 v12).put 71 v12).put 71 (Value.bool true)).put 72 undef).put 73 undef).put 74 undef).put 75 (Value.bool true)).put 76 (Value.bool true)).put 76 (Value.bool true)).put 77 undef).put 78 undef).put 79 undef).put 80 undef).put 81 undef).put 82 (Value.bool true)).put 83 (Value.bool true)).put 83 (Value.bool false)).put 84 v29).put 85 v30).put 86 v31).put 87 v32).put 88 (f.r 12)).put 89 (f.r 11)).put 90 v33).put 91 v34).put 92 v35).put 93 v35).put 94 (f.r 11)).put 95 v36).put 96 v36).put 96 (Value.bool true)).put 97 (f.r 10)).put 98 v37).put 99 v37).put 100 v37).put 100 (Value.bool false)).put 101 undef).put 102 undef).put 103 undef).put 104 undef).put 105 (Value.bool false)).put 106 (f.r 12)).put 10 (f.r 12)).put 107 (f.r 12)).put 108 v43).put 15 v43) h11 (contQ prog J 192 n0 9 [1, 1, 1, 1, 1, 1, 1, 0, 1, 0, 0, 1, 0, 0, 1, 0, 0, 1, 0, 0, 1, 1, 1, 1, 0] (codeOf f9) [nx0, nx1] (RetQ prog [.tmp 2] n0 K)))
(aBin prog .add 3 (f.r 12) (vint 1) fun v44 =>
Sem J 192 n0 9 (subC [1, 1, 1, 1, 1, 1, 1, 0, 1, 0, 0, 1, 0, 0, 1, 0, 0, 1, 0, 0, 1, 1, 1, 1, 0] (codeOf f9)) ((((((((((((((((((((((((((((((((((((((((((((((((((((((((((f.put 56 (f.r 12)).put 57 v1).put 58 v2).put 59 v3).put 63 v4).put 64 (f.r 11)).put 65 (f.r 12)).put 66 v5).put 62 v5).put 67 v7).put 68 v8).put 13 v9).put 14 v8).put 69 v8).put 70 v12).put 71 v12).put 71 (Value.bool true)).put 72 undef).put 73 undef).put 74 undef).put 75 (Value.bool true)).put 76 (Value.bool true)).put 76 (Value.bool true)).put 77 undef).put 78 undef).put 79 undef).put 80 undef).put 81 undef).put 82 (Value.bool true)).put 83 (Value.bool true)).put 83 (Value.bool false)).put 84 v29).put 85 v30).put 86 v31).put 87 v32).put 88 (f.r 12)).put 89 (f.r 11)).put 90 v33).put 91 v34).put 92 v35).put 93 v35).put 94 (f.r 11)).put 95 v36).put 96 v36).put 96 (Value.bool true)).put 97 (f.r 10)).put 98 v37).put 99 v37).put 100 v37).put 100 (Value.bool false)).put 101 undef).put 102 undef).put 103 undef).put 104 undef).put 105 (Value.bool false)).put 107 (f.r 12)).put 108 v44).put 15 v44) h11 (contQ prog J 192 n0 9 [1, 1, 1, 1, 1, 1, 1, 0, 1, 0, 0, 1, 0, 0, 1, 0, 0, 1, 0, 0, 1, 1, 1, 1, 0] (codeOf f9) [nx0, nx1] (RetQ prog [.tmp 2] n0 K)))))
(cnd (Value.bool false)
(aOff v9 0 fun v45 =>
aLoad false 1 v45 h11 fun v46 =>
aBin prog .geq 3 v46 (f.r 5) fun v47 =>
cnd v47
(aBin prog .add 3 (f.r 12) (vint 1) fun v48 =>
Sem J 192 n0 9 (subC [1, 1, 1, 1, 1, 1, 1, 0, 1, 0, 0, 1, 0, 0, 1, 0, 0, 1, 0, 0, 1, 1, 1, 1, 0] (codeOf f9)) ((((((((((((((((((((((((((((((((((((((((((((((((((((((((((((f.put 56 (f.r 12)).put 57 v1).put 58 v2).put 59 v3).put 63 v4).put 64 (f.r 11)).put 65 (f.r 12)).put 66 v5).put 62 v5).put 67 v7).put 68 v8).put 13 v9).put 14 v8).put 69 v8).put 70 v12).put 71 v12).put 71 (Value.bool true)).put 72 undef).put 73 undef).put 74 undef).put 75 (Value.bool true)).put 76 (Value.bool true)).put 76 (Value.bool true)).put 77 undef).put 78 undef).put 79 undef).put 80 undef).put 81 undef).put 82 (Value.bool true)).put 83 (Value.bool true)).put 83 (Value.bool false)).put 84 v29).put 85 v30).put 86 v31).put 87 v32).put 88 (f.r 12)).put 89 (f.r 11)).put 90 v33).put 91 v34).put 92 v35).put 93 v35).put 94 (f.r 11)).put 95 v36).put 96 v36).put 96 (Value.bool false)).put 97 undef).put 98 undef).put 99 (Value.bool false)).put 100 (Value.bool false)).put 100 (Value.bool true)).put 101 v45).put 102 v46).put 103 (f.r 5)).put 104 v47).put 105 v47).put 106 (f.r 12)).put 10 (f.r 12)).put 107 (f.r 12)).put 108 v48).put 15 v48) h11 (contQ prog J 192 n0 9 [1, 1, 1, 1, 1, 1, 1, 0, 1, 0, 0, 1, 0, 0, 1, 0, 0, 1, 0, 0, 1, 1, 1, 1, 0] (codeOf f9) [nx0, nx1] (RetQ prog [.tmp 2] n0 K)))
(aBin prog .add 3 (f.r 12) (vint 1) fun v49 =>
Sem J 192 n0 9 (subC [1, 1, 1, 1, 1, 1, 1, 0, 1, 0, 0, 1, 0, 0, 1, 0, 0, 1, 0, 0, 1, 1, 1, 1, 0] (codeOf f9)) ((((((((((((((((((((((((((((((((((((((((((((((((((((((((((f.put 56 (f.r 12)).put 57 v1).put 58 v2).put 59 v3).put 63 v4).put 64 (f.r 11)).put 65 (f.r 12)).put 66 v5).put 62 v5).put 67 v7).put 68 v8).put 13 v9).put 14 v8).put 69 v8).put 70 v12).put 71 v12).put 71 (Value.bool true)).put 72 undef).put 73 undef).put 74 undef).put 75 (Value.bool true)).put 76 (Value.bool true)).put 76 (Value.bool true)).put 77 undef).put 78 undef).put 79 undef).put 80 undef).put 81 undef).put 82 (Value.bool true)).put 83 (Value.bool true)).put 83 (Value.bool false)).put 84 v29).put 85 v30).put 86 v31).put 87 v32).put 88 (f.r 12)).put 89 (f.r 11)).put 90 v33).put 91 v34).put 92 v35).put 93 v35).put 94 (f.r 11)).put 95 v36).put 96 v36).put 96 (Value.bool false)).put 97 undef).put 98 undef).put 99 (Value.bool false)).put 100 (Value.bool false)).put 100 (Value.bool true)).put 101 v45).put 102 v46).put 103 (f.r 5)).put 104 v47).put 105 v47).put 107 (f.r 12)).put 108 v49).put 15 v49) h11 (contQ prog J 192 n0 9 [1, 1, 1, 1, 1, 1, 1, 0, 1, 0, 0, 1, 0, 0, 1, 0, 0, 1, 0, 0, 1, 1, 1, 1, 0] (codeOf f9) [nx0, nx1] (RetQ prog [.tmp 2] n0 K))))
(cnd (Value.bool false)
(aBin prog .add 3 (f.r 12) (vint 1) fun v50 =>
Sem J 192 n0 9 (subC [1, 1, 1, 1, 1, 1, 1, 0, 1, 0, 0, 1, 0, 0, 1, 0, 0, 1, 0, 0, 1, 1, 1, 1, 0] (codeOf f9)) ((((((((((((((((((((((((((((((((((((((((((((((((((((((((((((f.put 56 (f.r 12)).put 57 v1).put 58 v2).put 59 v3).put 63 v4).put 64 (f.r 11)).put 65 (f.r 12)).put 66 v5).put 62 v5).put 67 v7).put 68 v8).put 13 v9).put 14 v8).put 69 v8).put 70 v12).put 71 v12).put 71 (Value.bool true)).put 72 undef).put 73 undef).put 74 undef).put 75 (Value.bool true)).put 76 (Value.bool true)).put 76 (Value.bool true)).put 77 undef).put 78 undef).put 79 undef).put 80 undef).put 81 undef).put 82 (Value.bool true)).put 83 (Value.bool true)).put 83 (Value.bool false)).put 84 v29).put 85 v30).put 86 v31).put 87 v32).put 88 (f.r 12)).put 89 (f.r 11)).put 90 v33).put 91 v34).put 92 v35).put 93 v35).put 94 (f.r 11)).put 95 v36).put 96 v36).put 96 (Value.bool false)).put 97 undef).put 98 undef).put 99 (Value.bool false)).put 100 (Value.bool false)).put 100 (Value.bool false)).put 101 undef).put 102 undef).put 103 undef).put 104 undef).put 105 (Value.bool false)).put 106 (f.r 12)).put 10 (f.r 12)).put 107 (f.r 12)).put 108 v50).put 15 v50) h11 (contQ prog J 192 n0 9 [1, 1, 1, 1, 1, 1, 1, 0, 1, 0, 0, 1, 0, 0, 1, 0, 0, 1, 0, 0, 1, 1, 1, 1, 0] (codeOf f9) [nx0, nx1] (RetQ prog [.tmp 2] n0 K)))
(aBin prog .add 3 (f.r 12) (vint 1) fun v51 =>
Sem J 192 n0 9 (subC [1, 1, 1, 1, 1, 1, 1, 0, 1, 0, 0, 1, 0, 0, 1, 0, 0, 1, 0, 0, 1, 1, 1, 1, 0] (codeOf f9)) ((((((((((((((((((((((((((((((((((((((((((((((((((((((((((f.put 56 (f.r 12)).put 57 v1).put 58 v2).put 59 v3).put 63 v4).put 64 (f.r 11)).put 65 (f.r 12)).put 66 v5).put 62 v5).put 67 v7).put 68 v8).put 13 v9).put 14 v8).put 69 v8).put 70 v12).put 71 v12).put 71 (Value.bool true)).put 72 undef).put 73 undef).put 74 undef).put 75 (Value.bool true)).put 76 (Value.bool true)).put 76 (Value.bool true)).put 77 undef).put 78 undef).put 79 undef).put 80 undef).put 81 undef).put 82 (Value.bool true)).put 83 (Value.bool true)).put 83 (Value.bool false)).put 84 v29).put 85 v30).put 86 v31).put 87 v32).put 88 (f.r 12)).put 89 (f.r 11)).put 90 v33).put 91 v34).put 92 v35).put 93 v35).put 94 (f.r 11)).put 95 v36).put 96 v36).put 96 (Value.bool false)).put 97 undef).put 98 undef).put 99 (Value.bool false)).put 100 (Value.bool false)).put 100 (Value.bool false)).put 101 undef).put 102 undef).put 103 undef).put 104 undef).put 105 (Value.bool false)).put 107 (f.r 12)).put 108 v51).put 15 v51) h11 (contQ prog J 192 n0 9 [1, 1, 1, 1, 1, 1, 1, 0, 1, 0, 0, 1, 0, 0, 1, 0, 0, 1, 0, 0, 1, 1, 1, 1, 0] (codeOf f9) [nx0, nx1] (RetQ prog [.tmp 2] n0 K))))))))
(aOff v9 1 fun v52 =>
aLoad false 1 v52 h11 fun v53 =>
aOff v9 0 fun v54 =>
aLoad false 1 v54 h11 fun v55 =>
aBin prog .lss 3 v53 v55 fun v56 =>
cnd v56
(cnd (Value.bool true)
(retL n0 K f.ds [(Value.bool false)] h11)
(aBin prog .eql 3 (f.r 11) (vint 0) fun v57 =>
cnd v57
(aBin prog .lss 3 (f.r 10) (vint 0) fun v58 =>
cnd v58
(aOff v9 0 fun v59 =>
aLoad false 1 v59 h11 fun v60 =>
aBin prog .geq 3 v60 (f.r 5) fun v61 =>
cnd v61
(aBin prog .add 3 (f.r 12) (vint 1) fun v62 =>
Sem J 192 n0 9 (subC [1, 1, 1, 1, 1, 1, 1, 0, 1, 0, 0, 1, 0, 0, 1, 0, 0, 1, 0, 0, 1, 1, 1, 1, 0] (codeOf f9)) ((((((((((((((((((((((((((((((((((((((((((((((((((((((((((((f.put 56 (f.r 12)).put 57 v1).put 58 v2).put 59 v3).put 63 v4).put 64 (f.r 11)).put 65 (f.r 12)).put 66 v5).put 62 v5).put 67 v7).put 68 v8).put 13 v9).put 14 v8).put 69 v8).put 70 v12).put 71 v12).put 71 (Value.bool true)).put 72 undef).put 73 undef).put 74 undef).put 75 (Value.bool true)).put 76 (Value.bool true)).put 76 (Value.bool false)).put 77 v52).put 78 v53).put 79 v54).put 80 v55).put 81 v56).put 82 v56).put 83 v56).put 83 (Value.bool true)).put 84 undef).put 85 undef).put 86 undef).put 87 undef).put 88 undef).put 89 undef).put 90 undef).put 91 undef).put 92 undef).put 93 (Value.bool true)).put 94 (f.r 11)).put 95 v57).put 96 v57).put 96 (Value.bool true)).put 97 (f.r 10)).put 98 v58).put 99 v58).put 100 v58).put 100 (Value.bool true)).put 101 v59).put 102 v60).put 103 (f.r 5)).put 104 v61).put 105 v61).put 106 (f.r 12)).put 10 (f.r 12)).put 107 (f.r 12)).put 108 v62).put 15 v62) h11 (contQ prog J 192 n0 9 [1, 1, 1, 1, 1, 1, 1, 0, 1, 0, 0, 1, 0, 0, 1, 0, 0, 1, 0, 0, 1, 1, 1, 1, 0] (codeOf f9) [nx0, nx1] (RetQ prog [.tmp 2] n0 K)))
(aBin prog .add 3 (f.r 12) (vint 1) fun v63 =>
Sem J 192 n0 9 (subC [1, 1, 1, 1, 1, 1, 1, 0, 1, 0, 0, 1, 0, 0, 1, 0, 0, 1, 0, 0, 1, 1, 1, 1, 0] (codeOf f9)) ((((((((((((((((((((((((((((((((((((((((((((((((((((((((((f.put 56 (f.r 12)).put 57 v1).put 58 v2).put 59 v3).put 63 v4).put 64 (f.r 11)).put 65 (f.r 12)).put 66 v5).put 62 v5).put 67 v7).put 68 v8).put 13 v9).put 14 v8).put 69 v8).put 70 v12).put 71 v12).put 71 (Value.bool true)).put 72 undef).put 73 undef).put 74 undef).put 75 (Value.bool true)).put 76 (Value.bool true)).put 76 (Value.bool false)).put 77 v52).put 78 v53).put 79 v54).put 80 v55).put 81 v56).put 82 v56).put 83 v56).put 83 (Value.bool true)).put 84 undef).put 85 undef).put 86 undef).put 87 undef).put 88 undef).put 89 undef).put 90 undef).put 91 undef).put 92 undef).put 93 (Value.bool true)).put 94 (f.r 11)).put 95 v57).put 96 v57).put 96 (Value.bool true)).put 97 (f.r 10)).put 98 v58).put 99 v58).put 100 v58).put 100 (Value.bool true)).put 101 v59).put 102 v60).put 103 (f.r 5)).put 104 v61).put 105 v61).put 107 (f.r 12)).put 108 v63).put 15 v63) h11 (contQ prog J 192 n0 9 [1, 1, 1, 1, 1, 1, 1, 0, 1, 0, 0, 1, 0, 0, 1, 0, 0, 1, 0, 0, 1, 1, 1, 1, 0] (codeOf f9) [nx0, nx1] (RetQ prog [.tmp 2] n0 K))))
(cnd (Value.bool false)
(aBin prog .add 3 (f.r 12) (vint 1) fun v64 =>
Sem J 192 n0 9 (subC [1, 1, 1, 1, 1, 1, 1, 0, 1, 0, 0, 1, 0, 0, 1, 0, 0, 1, 0, 0, 1, 1, 1, 1, 0] (codeOf f9)) ((((((((((((((((((((((((((((((((((((((((((((((((((((((((((((f.put 56 (f.r 12)).put 57 v1).put 58 v2).put 59 v3).put 63 v4).put 64 (f.r 11)).put 65 (f.r 12)).put 66 v5).put 62 v5).put 67 v7).put 68 v8).put 13 v9).put 14 v8).put 69 v8).put 70 v12).put 71 v12).put 71 (Value.bool true)).put 72 undef).put 73 undef).put 74 undef).put 75 (Value.bool true)).put 76 (Value.bool true)).put 76 (Value.bool false)).put 77 v52).put 78 v53).put 79 v54).put 80 v55).put 81 v56).put 82 v56).put 83 v56).put 83 (Value.bool true)).put 84 undef).put 85 undef).put 86 undef).put 87 undef).put 88 undef).put 89 undef).put 90 undef).put 91 undef).put 92 undef).put 93 (Value.bool true)).put 94 (f.r 11)).put 95 v57).put 96 v57).put 96 (Value.bool true)).put 97 (f.r 10)).put 98 v58).put 99 v58).put 100 v58).put 100 (Value.bool false)).put 101 undef).put 102 undef).put 103 undef).put 104 undef).put 105 (Value.bool false)).put 106 (f.r 12)).put 10 (f.r 12)).put 107 (f.r 12)).put 108 v64).put 15 v64) h11 (contQ prog J 192 n0 9 [1, 1, 1, 1, 1, 1, 1, 0, 1, 0, 0, 1, 0, 0, 1, 0, 0, 1, 0, 0, 1, 1, 1, 1, 0] (codeOf f9) [nx0, nx1] (RetQ prog [.tmp 2] n0 K)))
(aBin prog .add 3 (f.r 12) (vint 1) fun v65 =>
Sem J 192 n0 9 (subC [1, 1, 1, 1, 1, 1, 1, 0, 1, 0, 0, 1, 0, 0, 1, 0, 0, 1, 0, 0, 1, 1, 1, 1, 0] (codeOf f9)) ((((((((((((((((((((((((((((((((((((((((((((((((((((((((((f.put 56 (f.r 12)).put 57 v1).put 58 v2).put 59 v3).put 63 v4).put 64 (f.r 11)).put 65 (f.r 12)).put 66 v5).put 62 v5).put 67 v7).put 68 v8).put 13 v9).put 14 v8).put 69 v8).put 70 v12).put 71 v12).put 71 (Value.bool true)).put 72 undef).put 73 undef).put 74 undef).put 75 (Value.bool true)).put 76 (Value.bool true)).put 76 (Value.bool false)).put 77 v52).put 78 v53).put 79 v54).put 80 v55).put 81 v56).put 82 v56).put 83 v56).put 83 (Value.bool true)).put 84 undef).put 85 undef).put 86 undef).put 87 undef).put 88 undef).put 89 undef).put 90 undef).put 91 undef).put 92 undef).put 93 (Value.bool true)).put 94 (f.r 11)).put 95 v57).put 96 v57).put 96 (Value.bool true)).put 97 (f.r 10)).put 98 v58).put 99 v58).put 100 v58).put 100 (Value.bool false)).put 101 undef).put 102 undef).put 103 undef).put 104 undef).put 105 (Value.bool false)).put 107 (f.r 12)).put 108 v65).put 15 v65) h11 (contQ prog J 192 n0 9 [1, 1, 1, 1, 1, 1, 1, 0, 1, 0, 0, 1, 0, 0, 1, 0, 0, 1, 0, 0, 1, 1, 1, 1, 0] (codeOf f9) [nx0, nx1] (RetQ prog [.tmp 2] n0 K)))))
(cnd (Value.bool false)
(aOff v9 0 fun v66 =>
aLoad false 1 v66 h11 fun v67 =>
aBin prog .geq 3 v67 (f.r 5) fun v68 =>
cnd v68
(aBin prog .add 3 (f.r 12) (vint 1) fun v69 =>
Sem J 192 n0 9 (subC [1, 1, 1, 1, 1, 1, 1, 0, 1, 0, 0, 1, 0, 0, 1, 0, 0, 1, 0, 0, 1, 1, 1, 1, 0] (codeOf f9)) ((((((((((((((((((((((((((((((((((((((((((((((((((((((((((((f.put 56 (f.r 12)).put 57 v1).put 58 v2).put 59 v3).put 63 v4).put 64 (f.r 11)).put 65 (f.r 12)).put 66 v5).put 62 v5).put 67 v7).put 68 v8).put 13 v9).put 14 v8).put 69 v8).put 70 v12).put 71 v12).put 71 (Value.bool true)).put 72 undef).put 73 undef).put 74 undef).put 75 (Value.bool true)).put 76 (Value.bool true)).put 76 (Value.bool false)).put 77 v52).put 78 v53).put 79 v54).put 80 v55).put 81 v56).put 82 v56).put 83 v56).put 83 (Value.bool true)).put 84 undef).put 85 undef).put 86 undef).put 87 undef).put 88 undef).put 89 undef).put 90 undef).put 91 undef).put 92 undef).put 93 (Value.bool true)).put 94 (f.r 11)).put 95 v57).put 96 v57).put 96 (Value.bool false)).put 97 undef).put 98 undef).put 99 (Value.bool false)).put 100 (Value.bool false)).put 100 (Value.bool true)).put 101 v66).put 102 v67).put 103 (f.r 5)).put 104 v68).put 105 v68).put 106 (f.r 12)).put 10 (f.r 12)).put 107 (f.r 12)).put 108 v69).put 15 v69) h11 (contQ prog J 192 n0 9 [1, 1, 1, 1, 1, 1, 1, 0, 1, 0, 0, 1, 0, 0, 1, 0, 0, 1, 0, 0, 1, 1, 1, 1, 0] (codeOf f9) [nx0, nx1] (RetQ prog [.tmp 2] n0 K)))
(aBin prog .add 3 (f.r 12) (vint 1) fun v70 =>
Sem J 192 n0 9 (subC [1, 1, 1, 1, 1, 1, 1, 0, 1, 0, 0, 1, 0, 0, 1, 0, 0, 1, 0, 0, 1, 1, 1, 1, 0] (codeOf f9)) ((((((((((((((((((((((((((((((((((((((((((((((((((((((((((f.put 56 (f.r 12)).put 57 v1).put 58 v2).put 59 v3).put 63 v4).put 64 (f.r 11)).put 65 (f.r 12)).put 66 v5).put 62 v5).put 67 v7).put 68 v8).put 13 v9).put 14 v8).put 69 v8).put 70 v12).put 71 v12).put 71 (Value.bool true)).put 72 undef).put 73 undef).put 74 undef).put 75 (Value.bool true)).put 76 (Value.bool true)).put 76 (Value.bool false)).put 77 v52).put 78 v53).put 79 v54).put 80 v55).put 81 v56).put 82 v56).put 83 v56).put 83 (Value.bool true)).put 84 undef).put 85 undef).put 86 undef).put 87 undef).put 88 undef).put 89 undef).put 90 undef).put 91 undef).put 92 undef).put 93 (Value.bool true)).put 94 (f.r 11)).put 95 v57).put 96 v57).put 96 (Value.bool false)).put 97 undef).put 98 undef).put 99 (Value.bool false)).put 100 (Value.bool false)).put 100 (Value.bool true)).put 101 v66).put 102 v67).put 103 (f.r 5)).put 104 v68).put 105 v68).put 107 (f.r 12)).put 108 v70).put 15 v70) h11 (contQ prog J 192 n0 9 [1, 1, 1, 1, 1, 1, 1, 0, 1, 0, 0, 1, 0, 0, 1, 0, 0, 1, 0, 0, 1, 1, 1, 1, 0] (codeOf f9) [nx0, nx1] (RetQ prog [.tmp 2] n0 K))))
(cnd (Value.bool false)
(aBin prog .add 3 (f.r 12) (vint 1) fun v71 =>
Sem J 192 n0 9 (subC [1, 1, 1, 1, 1, 1, 1, 0, 1, 0, 0, 1, 0, 0, 1, 0, 0, 1, 0, 0, 1, 1, 1, 1, 0] (codeOf f9)) ((((((((((((((((((((((((((((((((((((((((((((((((((((((((((((f.put 56 (f.r 12)).put 57 v1).put 58 v2).put 59 v3).put 63 v4).put 64 (f.r 11)).put 65 (f.r 12)).put 66 v5).put 62 v5).put 67 v7).put 68 v8).put 13 v9).put 14 v8).put 69 v8).put 70 v12).put 71 v12).put 71 (Value.bool true)).put 72 undef).put 73 undef).put 74 undef).put 75 (Value.bool true)).put 76 (Value.bool true)).put 76 (Value.bool false)).put 77 v52).put 78 v53).put 79 v54).put 80 v55).put 81 v56).put 82 v56).put 83 v56).put 83 (Value.bool true)).put 84 undef).put 85 undef).put 86 undef).put 87 undef).put 88 undef).put 89 undef).put 90 undef).put 91 undef).put 92 undef).put 93 (Value.bool true)).put 94 (f.r 11)).put 95 v57).put 96 v57).put 96 (Value.bool false)).put 97 undef).put 98 undef).put 99 (Value.bool false)).put 100 (Value.bool false)).put 100 (Value.bool false)).put 101 undef).put 102 undef).put 103 undef).put 104 undef).put 105 (Value.bool false)).put 106 (f.r 12)).put 10 (f.r 12)).put 107 (f.r 12)).put 108 v71).put 15 v71) h11 (contQ prog J 192 n0 9 [1, 1, 1, 1, 1, 1, 1, 0, 1, 0, 0, 1, 0, 0, 1, 0, 0, 1, 0, 0, 1, 1, 1, 1, 0] (codeOf f9) [nx0, nx1] (RetQ prog [.tmp 2] n0 K)))
(aBin prog .add 3 (f.r 12) (vint 1) fun v72 =>
Sem J 192 n0 9 (subC [1, 1, 1, 1, 1, 1, 1, 0, 1, 0, 0, 1, 0, 0, 1, 0, 0, 1, 0, 0, 1, 1, 1, 1, 0] (codeOf f9)) ((((((((((((((((((((((((((((((((((((((((((((((((((((((((((f.put 56 (f.r 12)).put 57 v1).put 58 v2).put 59 v3).put 63 v4).put 64 (f.r 11)).put 65 (f.r 12)).put 66 v5).put 62 v5).put 67 v7).put 68 v8).put 13 v9).put 14 v8).put 69 v8).put 70 v12).put 71 v12).put 71 (Value.bool true)).put 72 undef).put 73 undef).put 74 undef).put 75 (Value.bool true)).put 76 (Value.bool true)).put 76 (Value.bool false)).put 77 v52).put 78 v53).put 79 v54).put 80 v55).put 81 v56).put 82 v56).put 83 v56).put 83 (Value.bool true)).put 84 undef).put 85 undef).put 86 undef).put 87 undef).put 88 undef).put 89 undef).put 90 undef).put 91 undef).put 92 undef).put 93 (Value.bool true)).put 94 (f.r 11)).put 95 v57).put 96 v57).put 96 (Value.bool false)).put 97 undef).put 98 undef).put 99 (Value.bool false)).put 100 (Value.bool false)).put 100 (Value.bool false)).put 101 undef).put 102 undef).put 103 undef).put 104 undef).put 105 (Value.bool false)).put 107 (f.r 12)).put 108 v72).put 15 v72) h11 (contQ prog J 192 n0 9 [1, 1, 1, 1, 1, 1, 1, 0, 1, 0, 0, 1, 0, 0, 1, 0, 0, 1, 0, 0, 1, 1, 1, 1, 0] (codeOf f9) [nx0, nx1] (RetQ prog [.tmp 2] n0 K)))))))
(aOff v9 1 fun v73 =>
aLoad false 1 v73 h11 fun v74 =>
aOff (f.r 4) 4 fun v75 =>
aLoad false 1 v75 h11 fun v76 =>
aBin prog .sub 3 (f.r 12) (f.r 11) fun v77 =>
aBin prog .mul 3 v76 v77 fun v78 =>
aBin prog .gtr 3 v74 v78 fun v79 =>
cnd v79
(retL n0 K f.ds [(Value.bool false)] h11)
(aBin prog .eql 3 (f.r 11) (vint 0) fun v80 =>
cnd v80
(aBin prog .lss 3 (f.r 10) (vint 0) fun v81 =>
cnd v81
(aOff v9 0 fun v82 =>
aLoad false 1 v82 h11 fun v83 =>
aBin prog .geq 3 v83 (f.r 5) fun v84 =>
cnd v84
(aBin prog .add 3 (f.r 12) (vint 1) fun v85 =>
Sem J 192 n0 9 (subC [1, 1, 1, 1, 1, 1, 1, 0, 1, 0, 0, 1, 0, 0, 1, 0, 0, 1, 0, 0, 1, 1, 1, 1, 0] (codeOf f9)) ((((((((((((((((((((((((((((((((((((((((((((((((((((((((((((f.put 56 (f.r 12)).put 57 v1).put 58 v2).put 59 v3).put 63 v4).put 64 (f.r 11)).put 65 (f.r 12)).put 66 v5).put 62 v5).put 67 v7).put 68 v8).put 13 v9).put 14 v8).put 69 v8).put 70 v12).put 71 v12).put 71 (Value.bool true)).put 72 undef).put 73 undef).put 74 undef).put 75 (Value.bool true)).put 76 (Value.bool true)).put 76 (Value.bool false)).put 77 v52).put 78 v53).put 79 v54).put 80 v55).put 81 v56).put 82 v56).put 83 v56).put 83 (Value.bool false)).put 84 v73).put 85 v74).put 86 v75).put 87 v76).put 88 (f.r 12)).put 89 (f.r 11)).put 90 v77).put 91 v78).put 92 v79).put 93 v79).put 94 (f.r 11)).put 95 v80).put 96 v80).put 96 (Value.bool true)).put 97 (f.r 10)).put 98 v81).put 99 v81).put 100 v81).put 100 (Value.bool true)).put 101 v82).put 102 v83).put 103 (f.r 5)).put 104 v84).put 105 v84).put 106 (f.r 12)).put 10 (f.r 12)).put 107 (f.r 12)).put 108 v85).put 15 v85) h11 (contQ prog J 192 n0 9 [1, 1, 1, 1, 1, 1, 1, 0, 1, 0, 0, 1, 0, 0, 1, 0, 0, 1, 0, 0, 1, 1, 1, 1, 0] (codeOf f9) [nx0, nx1] (RetQ prog [.tmp 2] n0 K)))
(aBin prog .add 3 (f.r 12) (vint 1) fun v86 =>
Sem J 192 n0 9 (subC [1, 1, 1, 1, 1, 1, 1, 0, 1, 0, 0, 1, 0, 0, 1, 0, 0, 1, 0, 0, 1, 1, 1, 1, 0] (codeOf f9)) ((((((((((((((((((((((((((((((((((((((((((((((((((((((((((f.put 56 (f.r 12)).put 57 v1).put 58 v2).put 59 v3).put 63 v4).put 64 (f.r 11)).put 65 (f.r 12)).put 66 v5).put 62 v5).put 67 v7).put 68 v8).put 13 v9).put 14 v8).put 69 v8).put 70 v12).put 71 v12).put 71 (Value.bool true)).put 72 undef).put 73 undef).put 74 undef).put 75 (Value.bool true)).put 76 (Value.bool true)).put 76 (Value.bool false)).put 77 v52).put 78 v53).put 79 v54).put 80 v55).put 81 v56).put 82 v56).put 83 v56).put 83 (Value.bool false)).put 84 v73).put 85 v74).put 86 v75).put 87 v76).put 88 (f.r 12)).put 89 (f.r 11)).put 90 v77).put 91 v78).put 92 v79).put 93 v79).put 94 (f.r 11)).put 95 v80).put 96 v80).put 96 (Value.bool true)).put 97 (f.r 10)).put 98 v81).put 99 v81).put 100 v81).put 100 (Value.bool true)).put 101 v82).put 102 v83).put 103 (f.r 5)).put 104 v84).put 105 v84).put 107 (f.r 12)).put 108 v86).put 15 v86) h11 (contQ prog J 192 n0 9 [1, 1, 1, 1, 1, 1, 1, 0, 1, 0, 0, 1, 0, 0, 1, 0, 0, 1, 0, 0, 1, 1, 1, 1, 0] (codeOf f9) [nx0, nx1] (RetQ prog [.tmp 2] n0 K))))
(cnd (Value.bool false)
(aBin prog .add 3 (f.r 12) (vint 1) fun v87 =>
Sem J 192 n0 9 (subC [1, 1, 1, 1, 1, 1, 1, 0, 1, 0, 0, 1, 0, 0, 1, 0, 0, 1, 0, 0, 1, 1, 1, 1, 0] (codeOf f9)) ((((((((((((((((((((((((((((((((((((((((((((((((((((((((((((f.put 56 (f.r 12)).put 57 v1).put 58 v2).put 59 v3).put 63 v4).put 64 (f.r 11)).put 65 (f.r 12)).put 66 v5).put 62 v5).put 67 v7).put 68 v8).put 13 v9).put 14 v8).put 69 v8).put 70 v12).put 71 v12).put 71 (Value.bool true)).put 72 undef).put 73 undef).put 74 undef).put 75 (Value.bool true)).put 76 (Value.bool true)).put 76 (Value.bool false)).put 77 v52).put 78 v53).put 79 v54).put 80 v55).put 81 v56).put 82 v56).put 83 v56).put 83 (Value.bool false)).put 84 v73).put 85 v74).put 86 v75).put 87 v76).put 88 (f.r 12)).put 89 (f.r 11)).put 90 v77).put 91 v78).put 92 v79).put 93 v79).put 94 (f.r 11)).put 95 v80).put 96 v80).put 96 (Value.bool true)).put 97 (f.r 10)).put 98 v81).put 99 v81).put 100 v81).put 100 (Value.bool false)).put 101 undef).put 102 undef).put 103 undef).put 104 undef).put 105 (Value.bool false)).put 106 (f.r 12)).put 10 (f.r 12)).put 107 (f.r 12)).put 108 v87).put 15 v87) h11 (contQ prog J 192 n0 9 [1, 1, 1, 1, 1, 1, 1, 0, 1, 0, 0, 1, 0, 0, 1, 0, 0, 1, 0, 0, 1, 1, 1, 1, 0] (codeOf f9) [nx0, nx1] (RetQ prog [.tmp 2] n0 K)))
(aBin prog .add 3 (f.r 12) (vint 1) fun v88 =>
Sem J 192 n0 9 (subC [1, 1, 1, 1, 1, 1, 1, 0, 1, 0, 0, 1, 0, 0, 1, 0, 0, 1, 0, 0, 1, 1, 1, 1, 0] (codeOf f9)) ((((((((((((((((((((((((((((((((((((((((((((((((((((((((((f.put 56 (f.r 12)).put 57 v1).put 58 v2).put 59 v3).put 63 v4).put 64 (f.r 11)).put 65 (f.r 12)).put 66 v5).put 62 v5).put 67 v7).put 68 v8).put 13 v9).put 14 v8).put 69 v8).put 70 v12).put 71 v12).put 71 (Value.bool true)).put 72 undef).put 73 undef).put 74 undef).put 75 (Value.bool true)).put 76 (Value.bool true)).put 76 (Value.bool false)).put 77 v52).put 78 v53).put 79 v54).put 80 v55).put 81 v56).put 82 v56).put 83 v56).put 83 (Value.bool false)).put 84 v73).put 85 v74).put 86 v75).put 87 v76).put 88 (f.r 12)).put 89 (f.r 11)).put 90 v77).put 91 v78).put 92 v79).put 93 v79).put 94 (f.r 11)).put 95 v80).put 96 v80).put 96 (Value.bool true)).put 97 (f.r 10)).put 98 v81).put 99 v81).put 100 v81).put 100 (Value.bool false)).put 101 undef).put 102 undef).put 103 undef).put 104 undef).put 105 (Value.bool false)).put 107 (f.r 12)).put 108 v88).put 15 v88) h11 (contQ prog J 192 n0 9 [1, 1, 1, 1, 1, 1, 1, 0, 1, 0, 0, 1, 0, 0, 1, 0, 0, 1, 0, 0, 1, 1, 1, 1, 0] (codeOf f9) [nx0, nx1] (RetQ prog [.tmp 2] n0 K)))))
(cnd (Value.bool false)
(aOff v9 0 fun v89 =>
aLoad false 1 v89 h11 fun v90 =>
aBin prog .geq 3 v90 (f.r 5) fun v91 =>
cnd v91
(aBin prog .add 3 (f.r 12) (vint 1) fun v92 =>
Sem J 192 n0 9 (subC [1, 1, 1, 1, 1, 1, 1, 0, 1, 0, 0, 1, 0, 0, 1, 0, 0, 1, 0, 0, 1, 1, 1, 1, 0] (codeOf f9)) ((((((((((((((((((((((((((((((((((((((((((((((((((((((((((((f.put 56 (f.r 12)).put 57 v1).put 58 v2).put 59 v3).put 63 v4).put 64 (f.r 11)).put 65 (f.r 12)).put 66 v5).put 62 v5).put 67 v7).put 68 v8).put 13 v9).put 14 v8).put 69 v8).put 70 v12).put 71 v12).put 71 (Value.bool true)).put 72 undef).put 73 undef).put 74 undef).put 75 (Value.bool true)).put 76 (Value.bool true)).put 76 (Value.bool false)).put 77 v52).put 78 v53).put 79 v54).put 80 v55).put 81 v56).put 82 v56).put 83 v56).put 83 (Value.bool false)).put 84 v73).put 85 v74).put 86 v75).put 87 v76).put 88 (f.r 12)).put 89 (f.r 11)).put 90 v77).put 91 v78).put 92 v79).put 93 v79).put 94 (f.r 11)).put 95 v80).put 96 v80).put 96 (Value.bool false)).put 97 undef).put 98 undef).put 99 (Value.bool false)).put 100 (Value.bool false)).put 100 (Value.bool true)).put 101 v89).put 102 v90).put 103 (f.r 5)).put 104 v91).put 105 v91).put 106 (f.r 12)).put 10 (f.r 12)).put 107 (f.r 12)).put 108 v92).put 15 v92) h11 (contQ prog J 192 n0 9 [1, 1, 1, 1, 1, 1, 1, 0, 1, 0, 0, 1, 0, 0, 1, 0, 0, 1, 0, 0, 1, 1, 1, 1, 0] (codeOf f9) [nx0, nx1] (RetQ prog [.tmp 2] n0 K)))
(aBin prog .add 3 (f.r 12) (vint 1) fun v93 =>
Sem J 192 n0 9 (subC [1, 1, 1, 1, 1, 1, 1, 0, 1, 0, 0, 1, 0, 0, 1, 0, 0, 1, 0, 0, 1, 1, 1, 1, 0] (codeOf f9)) ((((((((((((((((((((((((((((((((((((((((((((((((((((((((((f.put 56 (f.r 12)).put 57 v1).put 58 v2).put 59 v3).put 63 v4).put 64 (f.r 11)).put 65 (f.r 12)).put 66 v5).put 62 v5).put 67 v7).put 68 v8).put 13 v9).put 14 v8).put 69 v8).put 70 v12).put 71 v12).put 71 (Value.bool true)).put 72 undef).put 73 undef).put 74 undef).put 75 (Value.bool true)).put 76 (Value.bool true)).put 76 (Value.bool false)).put 77 v52).put 78 v53).put 79 v54).put 80 v55).put 81 v56).put 82 v56).put 83 v56).put 83 (Value.bool false)).put 84 v73).put 85 v74).put 86 v75).put 87 v76).put 88 (f.r 12)).put 89 (f.r 11)).put 90 v77).put 91 v78).put 92 v79).put 93 v79).put 94 (f.r 11)).put 95 v80).put 96 v80).put 96 (Value.bool false)).put 97 undef).put 98 undef).put 99 (Value.bool false)).put 100 (Value.bool false)).put 100 (Value.bool true)).put 101 v89).put 102 v90).put 103 (f.r 5)).put 104 v91).put 105 v91).put 107 (f.r 12)).put 108 v93).put 15 v93) h11 (contQ prog J 192 n0 9 [1, 1, 1, 1, 1, 1, 1, 0, 1, 0, 0, 1, 0, 0, 1, 0, 0, 1, 0, 0, 1, 1, 1, 1, 0] (codeOf f9) [nx0, nx1] (RetQ prog [.tmp 2] n0 K))))
(cnd (Value.bool false)
(aBin prog .add 3 (f.r 12) (vint 1) fun v94 =>
Sem J 192 n0 9 (subC [1, 1, 1, 1, 1, 1, 1, 0, 1, 0, 0, 1, 0, 0, 1, 0, 0, 1, 0, 0, 1, 1, 1, 1, 0] (codeOf f9)) ((((((((((((((((((((((((((((((((((((((((((((((((((((((((((((f.put 56 (f.r 12)).put 57 v1).put 58 v2).put 59 v3).put 63 v4).put 64 (f.r 11)).put 65 (f.r 12)).put 66 v5).put 62 v5).put 67 v7).put 68 v8).put 13 v9).put 14 v8).put 69 v8).put 70 v12).put 71 v12).put 71 (Value.bool true)).put 72 undef).put 73 undef).put 74 undef).put 75 (Value.bool true)).put 76 (Value.bool true)).put 76 (Value.bool false)).put 77 v52).put 78 v53).put 79 v54).put 80 v55).put 81 v56).put 82 v56).put 83 v56).put 83 (Value.bool false)).put 84 v73).put 85 v74).put 86 v75).put 87 v76).put 88 (f.r 12)).put 89 (f.r 11)).put 90 v77).put 91 v78).put 92 v79).put 93 v79).put 94 (f.r 11)).put 95 v80).put 96 v80).put 96 (Value.bool false)).put 97 undef).put 98 undef).put 99 (Value.bool false)).put 100 (Value.bool false)).put 100 (Value.bool false)).put 101 undef).put 102 undef).put 103 undef).put 104 undef).put 105 (Value.bool false)).put 106 (f.r 12)).put 10 (f.r 12)).put 107 (f.r 12)).put 108 v94).put 15 v94) h11 (contQ prog J 192 n0 9 [1, 1, 1, 1, 1, 1, 1, 0, 1, 0, 0, 1, 0, 0, 1, 0, 0, 1, 0, 0, 1, 1, 1, 1, 0] (codeOf f9) [nx0, nx1] (RetQ prog [.tmp 2] n0 K)))
(aBin prog .add 3 (f.r 12) (vint 1) fun v95 =>
Sem J 192 n0 9 (subC [1, 1, 1, 1, 1, 1, 1, 0, 1, 0, 0, 1, 0, 0, 1, 0, 0, 1, 0, 0, 1, 1, 1, 1, 0] (codeOf f9)) ((((((((((((((((((((((((((((((((((((((((((((((((((((((((((f.put 56 (f.r 12)).put 57 v1).put 58 v2).put 59 v3).put 63 v4).put 64 (f.r 11)).put 65 (f.r 12)).put 66 v5).put 62 v5).put 67 v7).put 68 v8).put 13 v9).put 14 v8).put 69 v8).put 70 v12).put 71 v12).put 71 (Value.bool true)).put 72 undef).put 73 undef).put 74 undef).put 75 (Value.bool true)).put 76 (Value.bool true)).put 76 (Value.bool false)).put 77 v52).put 78 v53).put 79 v54).put 80 v55).put 81 v56).put 82 v56).put 83 v56).put 83 (Value.bool false)).put 84 v73).put 85 v74).put 86 v75).put 87 v76).put 88 (f.r 12)).put 89 (f.r 11)).put 90 v77).put 91 v78).put 92 v79).put 93 v79).put 94 (f.r 11)).put 95 v80).put 96 v80).put 96 (Value.bool false)).put 97 undef).put 98 undef).put 99 (Value.bool false)).put 100 (Value.bool false)).put 100 (Value.bool false)).put 101 undef).put 102 undef).put 103 undef).put 104 undef).put 105 (Value.bool false)).put 107 (f.r 12)).put 108 v95).put 15 v95) h11 (contQ prog J 192 n0 9 [1, 1, 1, 1, 1, 1, 1, 0, 1, 0, 0, 1, 0, 0, 1, 0, 0, 1, 0, 0, 1, 1, 1, 1, 0] (codeOf f9) [nx0, nx1] (RetQ prog [.tmp 2] n0 K)))))))))
(aOff v9 0 fun v96 =>
aLoad false 1 v96 h11 fun v97 =>
aBin prog .lss 3 v97 (vint 0) fun v98 =>
cnd v98
(cnd (Value.bool true)
(cnd (Value.bool true)
(retL n0 K f.ds [(Value.bool false)] h11)
(aBin prog .eql 3 (f.r 11) (vint 0) fun v99 =>
cnd v99
(aBin prog .lss 3 (f.r 10) (vint 0) fun v100 =>
cnd v100
(aOff v9 0 fun v101 =>
aLoad false 1 v101 h11 fun v102 =>
aBin prog .geq 3 v102 (f.r 5) fun v103 =>
cnd v103
(aBin prog .add 3 (f.r 12) (vint 1) fun v104 =>
Sem J 192 n0 9 (subC [1, 1, 1, 1, 1, 1, 1, 0, 1, 0, 0, 1, 0, 0, 1, 0, 0, 1, 0, 0, 1, 1, 1, 1, 0] (codeOf f9)) ((((((((((((((((((((((((((((((((((((((((((((((((((((((((((((f.put 56 (f.r 12)).put 57 v1).put 58 v2).put 59 v3).put 63 v4).put 64 (f.r 11)).put 65 (f.r 12)).put 66 v5).put 62 v5).put 67 v7).put 68 v8).put 13 v9).put 14 v8).put 69 v8).put 70 v12).put 71 v12).put 71 (Value.bool false)).put 72 v96).put 73 v97).put 74 v98).put 75 v98).put 76 v98).put 76 (Value.bool true)).put 77 undef).put 78 undef).put 79 undef).put 80 undef).put 81 undef).put 82 (Value.bool true)).put 83 (Value.bool true)).put 83 (Value.bool true)).put 84 undef).put 85 undef).put 86 undef).put 87 undef).put 88 undef).put 89 undef).put 90 undef).put 91 undef).put 92 undef).put 93 (Value.bool true)).put 94 (f.r 11)).put 95 v99).put 96 v99).put 96 (Value.bool true)).put 97 (f.r 10)).put 98 v100).put 99 v100).put 100 v100).put 100 (Value.bool true)).put 101 v101).put 102 v102).put 103 (f.r 5)).put 104 v103).put 105 v103).put 106 (f.r 12)).put 10 (f.r 12)).put 107 (f.r 12)).put 108 v104).put 15 v104) h11 (contQ prog J 192 n0 9 [1, 1, 1, 1, 1, 1, 1, 0, 1, 0, 0, 1, 0, 0, 1, 0, 0, 1, 0, 0, 1, 1, 1, 1, 0] (codeOf f9) [nx0, nx1] (RetQ prog [.tmp 2] n0 K)))
(aBin prog .add 3 (f.r 12) (vint 1) fun v105 =>
Sem J 192 n0 9 (subC [1, 1, 1, 1, 1, 1, 1, 0, 1, 0, 0, 1, 0, 0, 1, 0, 0, 1, 0, 0, 1, 1, 1, 1, 0] (codeOf f9)) ((((((((((((((((((((((((((((((((((((((((((((((((((((((((((f.put 56 (f.r 12)).put 57 v1).put 58 v2).put 59 v3).put 63 v4).put 64 (f.r 11)).put 65 (f.r 12)).put 66 v5).put 62 v5).put 67 v7).put 68 v8).put 13 v9).put 14 v8).put 69 v8).put 70 v12).put 71 v12).put 71 (Value.bool false)).put 72 v96).put 73 v97).put 74 v98).put 75 v98).put 76 v98).put 76 (Value.bool true)).put 77 undef).put 78 undef).put 79 undef).put 80 undef).put 81 undef).put 82 (Value.bool true)).put 83 (Value.bool true)).put 83 (Value.bool true)).put 84 undef).put 85 undef).put 86 undef).put 87 undef).put 88 undef).put 89 undef).put 90 undef).put 91 undef).put 92 undef).put 93 (Value.bool true)).put 94 (f.r 11)).put 95 v99).put 96 v99).put 96 (Value.bool true)).put 97 (f.r 10)).put 98 v100).put 99 v100).put 100 v100).put 100 (Value.bool true)).put 101 v101).put 102 v102).put 103 (f.r 5)).put 104 v103).put 105 v103).put 107 (f.r 12)).put 108 v105).put 15 v105) h11 (contQ prog J 192 n0 9 [1, 1, 1, 1, 1, 1, 1, 0, 1, 0, 0, 1, 0, 0, 1, 0, 0, 1, 0, 0, 1, 1, 1, 1, 0] (codeOf f9) [nx0, nx1] (RetQ prog [.tmp 2] n0 K))))
(cnd (Value.bool false)
(aBin prog .add 3 (f.r 12) (vint 1) fun v106 =>
Sem J 192 n0 9 (subC [1, 1, 1, 1, 1, 1, 1, 0, 1, 0, 0, 1, 0, 0, 1, 0, 0, 1, 0, 0, 1, 1, 1, 1, 0] (codeOf f9)) ((((((((((((((((((((((((((((((((((((((((((((((((((((((((((((f.put 56 (f.r 12)).put 57 v1).put 58 v2).put 59 v3).put 63 v4).put 64 (f.r 11)).put 65 (f.r 12)).put 66 v5).put 62 v5).put 67 v7).put 68 v8).put 13 v9).put 14 v8).put 69 v8).put 70 v12).put 71 v12).put 71 (Value.bool false)).put 72 v96).put 73 v97).put 74 v98).put 75 v98).put 76 v98).put 76 (Value.bool true)).put 77 undef).put 78 undef).put 79 undef).put 80 undef).put 81 undef).put 82 (Value.bool true)).put 83 (Value.bool true)).put 83 (Value.bool true)).put 84 undef).put 85 undef).put 86 undef).put 87 undef).put 88 undef).put 89 undef).put 90 undef).put 91 undef).put 92 undef).put 93 (Value.bool true)).put 94 (f.r 11)).put 95 v99).put 96 v99).put 96 (Value.bool true)).put 97 (f.r 10)).put 98 v100).put 99 v100).put 100 v100).put 100 (Value.bool false)).put 101 undef).put 102 undef).put 103 undef).put 104 undef).put 105 (Value.bool false)).put 106 (f.r 12)).put 10 (f.r 12)).put 107 (f.r 12)).put 108 v106).put 15 v106) h11 (contQ prog J 192 n0 9 [1, 1, 1, 1, 1, 1, 1, 0, 1, 0, 0, 1, 0, 0, 1, 0, 0, 1, 0, 0, 1, 1, 1, 1, 0] (codeOf f9) [nx0, nx1] (RetQ prog [.tmp 2] n0 K)))
(aBin prog .add 3 (f.r 12) (vint 1) fun v107 =>
Sem J 192 n0 9 (subC [1, 1, 1, 1, 1, 1, 1, 0, 1, 0, 0, 1, 0, 0, 1, 0, 0, 1, 0, 0, 1, 1, 1, 1, 0] (codeOf f9)) ((((((((((((((((((((((((((((((((((((((((((((((((((((((((((f.put 56 (f.r 12)).put 57 v1).put 58 v2).put 59 v3).put 63 v4).put 64 (f.r 11)).put 65 (f.r 12)).put 66 v5).put 62 v5).put 67 v7).put 68 v8).put 13 v9).put 14 v8).put 69 v8).put 70 v12).put 71 v12).put 71 (Value.bool false)).put 72 v96).put 73 v97).put 74 v98).put 75 v98).put 76 v98).put 76 (Value.bool true)).put 77 undef).put 78 undef).put 79 undef).put 80 undef).put 81 undef).put 82 (Value.bool true)).put 83 (Value.bool true)).put 83 (Value.bool true)).put 84 undef).put 85 undef).put 86 undef).put 87 undef).put 88 undef).put 89 undef).put 90 undef).put 91 undef).put 92 undef).put 93 (Value.bool true)).put 94 (f.r 11)).put 95 v99).put 96 v99).put 96 (Value.bool true)).put 97 (f.r 10)).put 98 v100).put 99 v100).put 100 v100).put 100 (Value.bool false)).put 101 undef).put 102 undef).put 103 undef).put 104 undef).put 105 (Value.bool false)).put 107 (f.r 12)).put 108 v107).put 15 v107) h11 (contQ prog J 192 n0 9 [1, 1, 1, 1, 1, 1, 1, 0, 1, 0, 0, 1, 0, 0, 1, 0, 0, 1, 0, 0, 1, 1, 1, 1, 0] (codeOf f9) [nx0, nx1] (RetQ prog [.tmp 2] n0 K)))))
(cnd (Value.bool false)
(aOff v9 0 fun v108 =>
aLoad false 1 v108 h11 fun v109 =>
aBin prog .geq 3 v109 (f.r 5) fun v110 =>
cnd v110
(aBin prog .add 3 (f.r 12) (vint 1) fun v111 =>
Sem J 192 n0 9 (subC [1, 1, 1, 1, 1, 1, 1, 0, 1, 0, 0, 1, 0, 0, 1, 0, 0, 1, 0, 0, 1, 1, 1, 1, 0] (codeOf f9)) ((((((((((((((((((((((((((((((((((((((((((((((((((((((((((((f.put 56 (f.r 12)).put 57 v1).put 58 v2).put 59 v3).put 63 v4).put 64 (f.r 11)).put 65 (f.r 12)).put 66 v5).put 62 v5).put 67 v7).put 68 v8).put 13 v9).put 14 v8).put 69 v8).put 70 v12).put 71 v12).put 71 (Value.bool false)).put 72 v96).put 73 v97).put 74 v98).put 75 v98).put 76 v98).put 76 (Value.bool true)).put 77 undef).put 78 undef).put 79 undef).put 80 undef).put 81 undef).put 82 (Value.bool true)).put 83 (Value.bool true)).put 83 (Value.bool true)).put 84 undef).put 85 undef).put 86 undef).put 87 undef).put 88 undef).put 89 undef).put 90 undef).put 91 undef).put 92 undef).put 93 (Value.bool true)).put 94 (f.r 11)).put 95 v99).put 96 v99).put 96 (Value.bool false)).put 97 undef).put 98 undef).put 99 (Value.bool false)).put 100 (Value.bool false)).put 100 (Value.bool true)).put 101 v108).put 102 v109).put 103 (f.r 5)).put 104 v110).put 105 v110).put 106 (f.r 12)).put 10 (f.r 12)).put 107 (f.r 12)).put 108 v111).put 15 v111) h11 (contQ prog J 192 n0 9 [1, 1, 1, 1, 1, 1, 1, 0, 1, 0, 0, 1, 0, 0, 1, 0, 0, 1, 0, 0, 1, 1, 1, 1, 0] (codeOf f9) [nx0, nx1] (RetQ prog [.tmp 2] n0 K)))
(aBin prog .add 3 (f.r 12) (vint 1) fun v112 =>
Sem J 192 n0 9 (subC [1, 1, 1, 1, 1, 1, 1, 0, 1, 0, 0, 1, 0, 0, 1, 0, 0, 1, 0, 0, 1, 1, 1, 1, 0] (codeOf f9)) ((((((((((((((((((((((((((((((((((((((((((((((((((((((((((f.put 56 (f.r 12)).put 57 v1).put 58 v2).put 59 v3).put 63 v4).put 64 (f.r 11)).put 65 (f.r 12)).put 66 v5).put 62 v5).put 67 v7).put 68 v8).put 13 v9).put 14 v8).put 69 v8).put 70 v12).put 71 v12).put 71 (Value.bool false)).put 72 v96).put 73 v97).put 74 v98).put 75 v98).put 76 v98).put 76 (Value.bool true)).put 77 undef).put 78 undef).put 79 undef).put 80 undef).put 81 undef).put 82 (Value.bool true)).put 83 (Value.bool true)).put 83 (Value.bool true)).put 84 undef).put 85 undef).put 86 undef).put 87 undef).put 88 undef).put 89 undef).put 90 undef).put 91 undef).put 92 undef).put 93 (Value.bool true)).put 94 (f.r 11)).put 95 v99).put 96 v99).put 96 (Value.bool false)).put 97 undef).put 98 undef).put 99 (Value.bool false)).put 100 (Value.bool false)).put 100 (Value.bool true)).put 101 v108).put 102 v109).put 103 (f.r 5)).put 104 v110).put 105 v110).put 107 (f.r 12)).put 108 v112).put 15 v112) h11 (contQ prog J 192 n0 9 [1, 1, 1, 1, 1, 1, 1, 0, 1, 0, 0, 1, 0, 0, 1, 0, 0, 1, 0, 0, 1, 1, 1, 1, 0] (codeOf f9) [nx0, nx1] (RetQ prog [.tmp 2] n0 K))))
(cnd (Value.bool false)
(aBin prog .add 3 (f.r 12) (vint 1) fun v113 =>
Sem J 192 n0 9 (subC [1, 1, 1, 1, 1, 1, 1, 0, 1, 0, 0, 1, 0, 0, 1, 0, 0, 1, 0, 0, 1, 1, 1, 1, 0] (codeOf f9)) ((((((((((((((((((((((((((((((((((((((((((((((((((((((((((((f.put 56 (f.r 12)).put 57 v1).put 58 v2).put 59 v3).put 63 v4).put 64 (f.r 11)).put 65 (f.r 12)).put 66 v5).put 62 v5).put 67 v7).put 68 v8).put 13 v9).put 14 v8).put 69 v8).put 70 v12).put 71 v12).put 71 (Value.bool false)).put 72 v96).put 73 v97).put 74 v98).put 75 v98).put 76 v98).put 76 (Value.bool true)).put 77 undef).put 78 undef).put 79 undef).put 80 undef).put 81 undef).put 82 (Value.bool true)).put 83 (Value.bool true)).put 83 (Value.bool true)).put 84 undef).put 85 undef).put 86 undef).put 87 undef).put 88 undef).put 89 undef).put 90 undef).put 91 undef).put 92 undef).put 93 (Value.bool true)).put 94 (f.r 11)).put 95 v99).put 96 v99).put 96 (Value.bool false)).put 97 undef).put 98 undef).put 99 (Value.bool false)).put 100 (Value.bool false)).put 100 (Value.bool false)).put 101 undef).put 102 undef).put 103 undef).put 104 undef).put 105 (Value.bool false)).put 106 (f.r 12)).put 10 (f.r 12)).put 107 (f.r 12)).put 108 v113).put 15 v113) h11 (contQ prog J 192 n0 9 [1, 1, 1, 1, 1, 1, 1, 0, 1, 0, 0, 1, 0, 0, 1, 0, 0, 1, 0, 0, 1, 1, 1, 1, 0] (codeOf f9) [nx0, nx1] (RetQ prog [.tmp 2] n0 K)))
(aBin prog .add 3 (f.r 12) (vint 1) fun v114 =>
Sem J 192 n0 9 (subC [1, 1, 1, 1, 1, 1, 1, 0, 1, 0, 0, 1, 0, 0, 1, 0, 0, 1, 0, 0, 1, 1, 1, 1, 0] (codeOf f9)) ((((((((((((((((((((((((((((((((((((((((((((((((((((((((((f.put 56 (f.r 12)).put 57 v1).put 58 v2).put 59 v3).put 63 v4).put 64 (f.r 11)).put 65 (f.r 12)).put 66 v5).put 62 v5).put 67 v7).put 68 v8).put 13 v9).put 14 v8).put 69 v8).put 70 v12).put 71 v12).put 71 (Value.bool false)).put 72 v96).put 73 v97).put 74 v98).put 75 v98).put 76 v98).put 76 (Value.bool true)).put 77 undef).put 78 undef).put 79 undef).put 80 undef).put 81 undef).put 82 (Value.bool true)).put 83 (Value.bool true)).put 83 (Value.bool true)).put 84 undef).put 85 undef).put 86 undef).put 87 undef).put 88 undef).put 89 undef).put 90 undef).put 91 undef).put 92 undef).put 93 (Value.bool true)).put 94 (f.r 11)).put 95 v99).put 96 v99).put 96 (Value.bool false)).put 97 undef).put 98 undef).put 99 (Value.bool false)).put 100 (Value.bool false)).put 100 (Value.bool false)).put 101 undef).put 102 undef).put 103 undef).put 104 undef).put 105 (Value.bool false)).put 107 (f.r 12)).put 108 v114).put 15 v114) h11 (contQ prog J 192 n0 9 [1, 1, 1, 1, 1, 1, 1, 0, 1, 0, 0, 1, 0, 0, 1, 0, 0, 1, 0, 0, 1, 1, 1, 1, 0] (codeOf f9) [nx0, nx1] (RetQ prog [.tmp 2] n0 K)))))))
(aOff v9 1 fun v115 =>
aLoad false 1 v115 h11 fun v116 =>
aOff (f.r 4) 4 fun v117 =>
aLoad false 1 v117 h11 fun v118 =>
aBin prog .sub 3 (f.r 12) (f.r 11) fun v119 =>
aBin prog .mul 3 v118 v119 fun v120 =>
aBin prog .gtr 3 v116 v120 fun v121 =>
cnd v121
(retL n0 K f.ds [(Value.bool false)] h11)
(aBin prog .eql 3 (f.r 11) (vint 0) fun v122 =>
cnd v122
(aBin prog .lss 3 (f.r 10) (vint 0) fun v123 =>
cnd v123
(aOff v9 0 fun v124 =>
aLoad false 1 v124 h11 fun v125 =>
aBin prog .geq 3 v125 (f.r 5) fun v126 =>
cnd v126
(aBin prog .add 3 (f.r 12) (vint 1) fun v127 =>
Sem J 192 n0 9 (subC [1, 1, 1, 1, 1, 1, 1, 0, 1, 0, 0, 1, 0, 0, 1, 0, 0, 1, 0, 0, 1, 1, 1, 1, 0] (codeOf f9)) ((((((((((((((((((((((((((((((((((((((((((((((((((((((((((((f.put 56 (f.r 12)).put 57 v1).put 58 v2).put 59 v3).put 63 v4).put 64 (f.r 11)).put 65 (f.r 12)).put 66 v5).put 62 v5).put 67 v7).put 68 v8).put 13 v9).put 14 v8).put 69 v8).put 70 v12).put 71 v12).put 71 (Value.bool false)).put 72 v96).put 73 v97).put 74 v98).put 75 v98).put 76 v98).put 76 (Value.bool true)).put 77 undef).put 78 undef).put 79 undef).put 80 undef).put 81 undef).put 82 (Value.bool true)).put 83 (Value.bool true)).put 83 (Value.bool false)).put 84 v115).put 85 v116).put 86 v117).put 87 v118).put 88 (f.r 12)).put 89 (f.r 11)).put 90 v119).put 91 v120).put 92 v121).put 93 v121).put 94 (f.r 11)).put 95 v122).put 96 v122).put 96 (Value.bool true)).put 97 (f.r 10)).put 98 v123).put 99 v123).put 100 v123).put 100 (Value.bool true)).put 101 v124).put 102 v125).put 103 (f.r 5)).put 104 v126).put 105 v126).put 106 (f.r 12)).put 10 (f.r 12)).put 107 (f.r 12)).put 108 v127).put 15 v127) h11 (contQ prog J 192 n0 9 [1, 1, 1, 1, 1, 1, 1, 0, 1, 0, 0, 1, 0, 0, 1, 0, 0, 1, 0, 0, 1, 1, 1, 1, 0] (codeOf f9) [nx0, nx1] (RetQ prog [.tmp 2] n0 K)))
(aBin prog .add 3 (f.r 12) (vint 1) fun v128 =>
Sem J 192 n0 9 (subC [1, 1, 1, 1, 1, 1, 1, 0, 1, 0, 0, 1, 0, 0, 1, 0, 0, 1, 0, 0, 1, 1, 1, 1, 0] (codeOf f9)) ((((((((((((((((((((((((((((((((((((((((((((((((((((((((((f.put 56 (f.r 12)).put 57 v1).put 58 v2).put 59 v3).put 63 v4).put 64 (f.r 11)).put 65 (f.r 12)).put 66 v5).put 62 v5).put 67 v7).put 68 v8).put 13 v9).put 14 v8).put 69 v8).put 70 v12).put 71 v12).put 71 (Value.bool false)).put 72 v96).put 73 v97).put 74 v98).put 75 v98).put 76 v98).put 76 (Value.bool true)).put 77 undef).put 78 undef).put 79 undef).put 80 undef).put 81 undef).put 82 (Value.bool true)).put 83 (Value.bool true)).put 83 (Value.bool false)).put 84 v115).put 85 v116).put 86 v117).put 87 v118).put 88 (f.r 12)).put 89 (f.r 11)).put 90 v119).put 91 v120).put 92 v121).put 93 v121).put 94 (f.r 11)).put 95 v122).put 96 v122).put 96 (Value.bool true)).put 97 (f.r 10)).put 98 v123).put 99 v123).put 100 v123).put 100 (Value.bool true)).put 101 v124).put 102 v125).put 103 (f.r 5)).put 104 v126).put 105 v126).put 107 (f.r 12)).put 108 v128).put 15 v128) h11 (contQ prog J 192 n0 9 [1, 1, 1, 1, 1, 1, 1, 0, 1, 0, 0, 1, 0, 0, 1, 0, 0, 1, 0, 0, 1, 1, 1, 1, 0] (codeOf f9) [nx0, nx1] (RetQ prog [.tmp 2] n0 K))))
(cnd (Value.bool false)
(aBin prog .add 3 (f.r 12) (vint 1) fun v129 =>
Sem J 192 n0 9 (subC [1, 1, 1, 1, 1, 1, 1, 0, 1, 0, 0, 1, 0, 0, 1, 0, 0, 1, 0, 0, 1, 1, 1, 1, 0] (codeOf f9)) ((((((((((((((((((((((((((((((((((((((((((((((((((((((((((((f.put 56 (f.r 12)).put 57 v1).put 58 v2).put 59 v3).put 63 v4).put 64 (f.r 11)).put 65 (f.r 12)).put 66 v5).put 62 v5).put 67 v7).put 68 v8).put 13 v9).put 14 v8).put 69 v8).put 70 v12).put 71 v12).put 71 (Value.bool false)).put 72 v96).put 73 v97).put 74 v98).put 75 v98).put 76 v98).put 76 (Value.bool true)).put 77 undef).put 78 undef).put 79 undef).put 80 undef).put 81 undef).put 82 (Value.bool true)).put 83 (Value.bool true)).put 83 (Value.bool false)).put 84 v115).put 85 v116).put 86 v117).put 87 v118).put 88 (f.r 12)).put 89 (f.r 11)).put 90 v119).put 91 v120).put 92 v121).put 93 v121).put 94 (f.r 11)).put 95 v122).put 96 v122).put 96 (Value.bool true)).put 97 (f.r 10)).put 98 v123).put 99 v123).put 100 v123).put 100 (Value.bool false)).put 101 undef).put 102 undef).put 103 undef).put 104 undef).put 105 (Value.bool false)).put 106 (f.r 12)).put 10 (f.r 12)).put 107 (f.r 12)).put 108 v129).put 15 v129) h11 (contQ prog J 192 n0 9 [1, 1, 1, 1, 1, 1, 1, 0, 1, 0, 0, 1, 0, 0, 1, 0, 0, 1, 0, 0, 1, 1, 1, 1, 0] (codeOf f9) [nx0, nx1] (RetQ prog [.tmp 2] n0 K)))
(aBin prog .add 3 (f.r 12) (vint 1) fun v130 =>
Sem J 192 n0 9 (subC [1, 1, 1, 1, 1, 1, 1, 0, 1, 0, 0, 1, 0, 0, 1, 0, 0, 1, 0, 0, 1, 1, 1, 1, 0] (codeOf f9)) ((((((((((((((((((((((((((((((((((((((((((((((((((((((((((f.put 56 (f.r 12)).put 57 v1).put 58 v2).put 59 v3).put 63 v4).put 64 (f.r 11)).put 65 (f.r 12)).put 66 v5).put 62 v5).put 67 v7).put 68 v8).put 13 v9).put 14 v8).put 69 v8).put 70 v12).put 71 v12).put 71 (Value.bool false)).put 72 v96).put 73 v97).put 74 v98).put 75 v98).put 76 v98).put 76 (Value.bool true)).put 77 undef).put 78 undef).put 79 undef).put 80 undef).put 81 undef).put 82 (Value.bool true)).put 83 (Value.bool true)).put 83 (Value.bool false)).put 84 v115).put 85 v116).put 86 v117).put 87 v118).put 88 (f.r 12)).put 89 (f.r 11)).put 90 v119).put 91 v120).put 92 v121).put 93 v121).put 94 (f.r 11)).put 95 v122).put 96 v122).put 96 (Value.bool true)).put 97 (f.r 10)).put 98 v123).put 99 v123).put 100 v123).put 100 (Value.bool false)).put 101 undef).put 102 undef).put 103 undef).put 104 undef).put 105 (Value.bool false)).put 107 (f.r 12)).put 108 v130).put 15 v130) h11 (contQ prog J 192 n0 9 [1, 1, 1, 1, 1, 1, 1, 0, 1, 0, 0, 1, 0, 0, 1, 0, 0, 1, 0, 0, 1, 1, 1, 1, 0] (codeOf f9) [nx0, nx1] (RetQ prog [.tmp 2] n0 K)))))
(cnd (Value.bool false)
(aOff v9 0 fun v131 =>
aLoad false 1 v131 h11 fun v132 =>
aBin prog .geq 3 v132 (f.r 5) fun v133 =>
cnd v133
(aBin prog .add 3 (f.r 12) (vint 1) fun v134 =>
Sem J 192 n0 9 (subC [1, 1, 1, 1, 1, 1, 1, 0, 1, 0, 0, 1, 0, 0, 1, 0, 0, 1, 0, 0, 1, 1, 1, 1, 0] (codeOf f9)) ((((((((((((((((((((((((((((((((((((((((((((((((((((((((((((f.put 56 (f.r 12)).put 57 v1).put 58 v2).put 59 v3).put 63 v4).put 64 (f.r 11)).put 65 (f.r 12)).put 66 v5).put 62 v5).put 67 v7).put 68 v8).put 13 v9).put 14 v8).put 69 v8).put 70 v12).put 71 v12).put 71 (Value.bool false)).put 72 v96).put 73 v97).put 74 v98).put 75 v98).put 76 v98).put 76 (Value.bool true)).put 77 undef).put 78 undef).put 79 undef).put 80 undef).put 81 undef).put 82 (Value.bool true)).put 83 (Value.bool true)).put 83 (Value.bool false)).put 84 v115).put 85 v116).put 86 v117).put 87 v118).put 88 (f.r 12)).put 89 (f.r 11)).put 90 v119).put 91 v120).put 92 v121).put 93 v121).put 94 (f.r 11)).put 95 v122).put 96 v122).put 96 (Value.bool false)).put 97 undef).put 98 undef).put 99 (Value.bool false)).put 100 (Value.bool false)).put 100 (Value.bool true)).put 101 v131).put 102 v132).put 103 (f.r 5)).put 104 v133).put 105 v133).put 106 (f.r 12)).put 10 (f.r 12)).put 107 (f.r 12)).put 108 v134).put 15 v134) h11 (contQ prog J 192 n0 9 [1, 1, 1, 1, 1, 1, 1, 0, 1, 0, 0, 1, 0, 0, 1, 0, 0, 1, 0, 0, 1, 1, 1, 1, 0] (codeOf f9) [nx0, nx1] (RetQ prog [.tmp 2] n0 K)))
(aBin prog .add 3 (f.r 12) (vint 1) fun v135 =>
Sem J 192 n0 9 (subC [1, 1, 1, 1, 1, 1, 1, 0, 1, 0, 0, 1, 0, 0, 1, 0, 0, 1, 0, 0, 1, 1, 1, 1, 0] (codeOf f9)) ((((((((((((((((((((((((((((((((((((((((((((((((((((((((((f.put 56 (f.r 12)).put 57 v1).put 58 v2).put 59 v3).put 63 v4).put 64 (f.r 11)).put 65 (f.r 12)).put 66 v5).put 62 v5).put 67 v7).put 68 v8).put 13 v9).put 14 v8).put 69 v8).put 70 v12).put 71 v12).put 71 (Value.bool false)).put 72 v96).put 73 v97).put 74 v98).put 75 v98).put 76 v98).put 76 (Value.bool true)).put 77 undef).put 78 undef).put 79 undef).put 80 undef).put 81 undef).put 82 (Value.bool true)).put 83 (Value.bool true)).put 83 (Value.bool false)).put 84 v115).put 85 v116).put 86 v117).put 87 v118).put 88 (f.r 12)).put 89 (f.r 11)).put 90 v119).put 91 v120).put 92 v121).put 93 v121).put 94 (f.r 11)).put 95 v122).put 96 v122).put 96 (Value.bool false)).put 97 undef).put 98 undef).put 99 (Value.bool false)).put 100 (Value.bool false)).put 100 (Value.bool true)).put 101 v131).put 102 v132).put 103 (f.r 5)).put 104 v133).put 105 v133).put 107 (f.r 12)).put 108 v135).put 15 v135) h11 (contQ prog J 192 n0 9 [1, 1, 1, 1, 1, 1, 1, 0, 1, 0, 0, 1, 0, 0, 1, 0, 0, 1, 0, 0, 1, 1, 1, 1, 0] (codeOf f9) [nx0, nx1] (RetQ prog [.tmp 2] n0 K))))
(cnd (Value.bool false)
(aBin prog .add 3 (f.r 12) (vint 1) fun v136 =>
Sem J 192 n0 9 (subC [1, 1, 1, 1, 1, 1, 1, 0, 1, 0, 0, 1, 0, 0, 1, 0, 0, 1, 0, 0, 1, 1, 1, 1, 0] (codeOf f9)) ((((((((((((((((((((((((((((((((((((((((((((((((((((((((((((f.put 56 (f.r 12)).put 57 v1).put 58 v2).put 59 v3).put 63 v4).put 64 (f.r 11)).put 65 (f.r 12)).put 66 v5).put 62 v5).put 67 v7).put 68 v8).put 13 v9).put 14 v8).put 69 v8).put 70 v12).put 71 v12).put 71 (Value.bool false)).put 72 v96).put 73 v97).put 74 v98).put 75 v98).put 76 v98).put 76 (Value.bool true)).put 77 undef).put 78 undef).put 79 undef).put 80 undef).put 81 undef).put 82 (Value.bool true)).put 83 (Value.bool true)).put 83 (Value.bool false)).put 84 v115).put 85 v116).put 86 v117).put 87 v118).put 88 (f.r 12)).put 89 (f.r 11)).put 90 v119).put 91 v120).put 92 v121).put 93 v121).put 94 (f.r 11)).put 95 v122).put 96 v122).put 96 (Value.bool false)).put 97 undef).put 98 undef).put 99 (Value.bool false)).put 100 (Value.bool false)).put 100 (Value.bool false)).put 101 undef).put 102 undef).put 103 undef).put 104 undef).put 105 (Value.bool false)).put 106 (f.r 12)).put 10 (f.r 12)).put 107 (f.r 12)).put 108 v136).put 15 v136) h11 (contQ prog J 192 n0 9 [1, 1, 1, 1, 1, 1, 1, 0, 1, 0, 0, 1, 0, 0, 1, 0, 0, 1, 0, 0, 1, 1, 1, 1, 0] (codeOf f9) [nx0, nx1] (RetQ prog [.tmp 2] n0 K)))
(aBin prog .add 3 (f.r 12) (vint 1) fun v137 =>
Sem J 192 n0 9 (subC [1, 1, 1, 1, 1, 1, 1, 0, 1, 0, 0, 1, 0, 0, 1, 0, 0, 1, 0, 0, 1, 1, 1, 1, 0] (codeOf f9)) ((((((((((((((((((((((((((((((((((((((((((((((((((((((((((f.put 56 (f.r 12)).put 57 v1).put 58 v2).put 59 v3).put 63 v4).put 64 (f.r 11)).put 65 (f.r 12)).put 66 v5).put 62 v5).put 67 v7).put 68 v8).put 13 v9).put 14 v8).put 69 v8).put 70 v12).put 71 v12).put 71 (Value.bool false)).put 72 v96).put 73 v97).put 74 v98).put 75 v98).put 76 v98).put 76 (Value.bool true)).put 77 undef).put 78 undef).put 79 undef).put 80 undef).put 81 undef).put 82 (Value.bool true)).put 83 (Value.bool true)).put 83 (Value.bool false)).put 84 v115).put 85 v116).put 86 v117).put 87 v118).put 88 (f.r 12)).put 89 (f.r 11)).put 90 v119).put 91 v120).put 92 v121).put 93 v121).put 94 (f.r 11)).put 95 v122).put 96 v122).put 96 (Value.bool false)).put 97 undef).put 98 undef).put 99 (Value.bool false)).put 100 (Value.bool false)).put 100 (Value.bool false)).put 101 undef).put 102 undef).put 103 undef).put 104 undef).put 105 (Value.bool false)).put 107 (f.r 12)).put 108 v137).put 15 v137) h11 (contQ prog J 192 n0 9 [1, 1, 1, 1, 1, 1, 1, 0, 1, 0, 0, 1, 0, 0, 1, 0, 0, 1, 0, 0, 1, 1, 1, 1, 0] (codeOf f9) [nx0, nx1] (RetQ prog [.tmp 2] n0 K))))))))
(aOff v9 1 fun v138 =>
aLoad false 1 v138 h11 fun v139 =>
aOff v9 0 fun v140 =>
aLoad false 1 v140 h11 fun v141 =>
aBin prog .lss 3 v139 v141 fun v142 =>
cnd v142
(cnd (Value.bool true)
(retL n0 K f.ds [(Value.bool false)] h11)
(aBin prog .eql 3 (f.r 11) (vint 0) fun v143 =>
cnd v143
(aBin prog .lss 3 (f.r 10) (vint 0) fun v144 =>
cnd v144
(aOff v9 0 fun v145 =>
aLoad false 1 v145 h11 fun v146 =>
aBin prog .geq 3 v146 (f.r 5) fun v147 =>
cnd v147
(aBin prog .add 3 (f.r 12) (vint 1) fun v148 =>
Sem J 192 n0 9 (subC [1, 1, 1, 1, 1, 1, 1, 0, 1, 0, 0, 1, 0, 0, 1, 0, 0, 1, 0, 0, 1, 1, 1, 1, 0] (codeOf f9)) ((((((((((((((((((((((((((((((((((((((((((((((((((((((((((((f.put 56 (f.r 12)).put 57 v1).put 58 v2).put 59 v3).put 63 v4).put 64 (f.r 11)).put 65 (f.r 12)).put 66 v5).put 62 v5).put 67 v7).put 68 v8).put 13 v9).put 14 v8).put 69 v8).put 70 v12).put 71 v12).put 71 (Value.bool false)).put 72 v96).put 73 v97).put 74 v98).put 75 v98).put 76 v98).put 76 (Value.bool false)).put 77 v138).put 78 v139).put 79 v140).put 80 v141).put 81 v142).put 82 v142).put 83 v142).put 83 (Value.bool true)).put 84 undef).put 85 undef).put 86 undef).put 87 undef).put 88 undef).put 89 undef).put 90 undef).put 91 undef).put 92 undef).put 93 (Value.bool true)).put 94 (f.r 11)).put 95 v143).put 96 v143).put 96 (Value.bool true)).put 97 (f.r 10)).put 98 v144).put 99 v144).put 100 v144).put 100 (Value.bool true)).put 101 v145).put 102 v146).put 103 (f.r 5)).put 104 v147).put 105 v147).put 106 (f.r 12)).put 10 (f.r 12)).put 107 (f.r 12)).put 108 v148).put 15 v148) h11 (contQ prog J 192 n0 9 [1, 1, 1, 1, 1, 1, 1, 0, 1, 0, 0, 1, 0, 0, 1, 0, 0, 1, 0, 0, 1, 1, 1, 1, 0] (codeOf f9) [nx0, nx1] (RetQ prog [.tmp 2] n0 K)))
(aBin prog .add 3 (f.r 12) (vint 1) fun v149 =>
Sem J 192 n0 9 (subC [1, 1, 1, 1, 1, 1, 1, 0, 1, 0, 0, 1, 0, 0, 1, 0, 0, 1, 0, 0, 1, 1, 1, 1, 0] (codeOf f9)) ((((((((((((((((((((((((((((((((((((((((((((((((((((((((((f.put 56 (f.r 12)).put 57 v1).put 58 v2).put 59 v3).put 63 v4).put 64 (f.r 11)).put 65 (f.r 12)).put 66 v5).put 62 v5).put 67 v7).put 68 v8).put 13 v9).put 14 v8).put 69 v8).put 70 v12).put 71 v12).put 71 (Value.bool false)).put 72 v96).put 73 v97).put 74 v98).put 75 v98).put 76 v98).put 76 (Value.bool false)).put 77 v138).put 78 v139).put 79 v140).put 80 v141).put 81 v142).put 82 v142).put 83 v142).put 83 (Value.bool true)).put 84 undef).put 85 undef).put 86 undef).put 87 undef).put 88 undef).put 89 undef).put 90 undef).put 91 undef).put 92 undef).put 93 (Value.bool true)).put 94 (f.r 11)).put 95 v143).put 96 v143).put 96 (Value.bool true)).put 97 (f.r 10)).put 98 v144).put 99 v144).put 100 v144).put 100 (Value.bool true)).put 101 v145).put 102 v146).put 103 (f.r 5)).put 104 v147).put 105 v147).put 107 (f.r 12)).put 108 v149).put 15 v149) h11 (contQ prog J 192 n0 9 [1, 1, 1, 1, 1, 1, 1, 0, 1, 0, 0, 1, 0, 0, 1, 0, 0, 1, 0, 0, 1, 1, 1, 1, 0] (codeOf f9) [nx0, nx1] (RetQ prog [.tmp 2] n0 K))))
(cnd (Value.bool false)
(aBin prog .add 3 (f.r 12) (vint 1) fun v150 =>
Sem J 192 n0 9 (subC [1, 1, 1, 1, 1, 1, 1, 0, 1, 0, 0, 1, 0, 0, 1, 0, 0, 1, 0, 0, 1, 1, 1, 1, 0] (codeOf f9)) ((((((((((((((((((((((((((((((((((((((((((((((((((((((((((((f.put 56 (f.r 12)).put 57 v1).put 58 v2).put 59 v3).put 63 v4).put 64 (f.r 11)).put 65 (f.r 12)).put 66 v5).put 62 v5).put 67 v7).put 68 v8).put 13 v9).put 14 v8).put 69 v8).put 70 v12).put 71 v12).put 71 (Value.bool false)).put 72 v96).put 73 v97).put 74 v98).put 75 v98).put 76 v98).put 76 (Value.bool false)).put 77 v138).put 78 v139).put 79 v140).put 80 v141).put 81 v142).put 82 v142).put 83 v142).put 83 (Value.bool true)).put 84 undef).put 85 undef).put 86 undef).put 87 undef).put 88 undef).put 89 undef).put 90 undef).put 91 undef).put 92 undef).put 93 (Value.bool true)).put 94 (f.r 11)).put 95 v143).put 96 v143).put 96 (Value.bool true)).put 97 (f.r 10)).put 98 v144).put 99 v144).put 100 v144).put 100 (Value.bool false)).put 101 undef).put 102 undef).put 103 undef).put 104 undef).put 105 (Value.bool false)).put 106 (f.r 12)).put 10 (f.r 12)).put 107 (f.r 12)).put 108 v150).put 15 v150) h11 (contQ prog J 192 n0 9 [1, 1, 1, 1, 1, 1, 1, 0, 1, 0, 0, 1, 0, 0, 1, 0, 0, 1, 0, 0, 1, 1, 1, 1, 0] (codeOf f9) [nx0, nx1] (RetQ prog [.tmp 2] n0 K)))
(aBin prog .add 3 (f.r 12) (vint 1) fun v151 =>
Sem J 192 n0 9 (subC [1, 1, 1, 1, 1, 1, 1, 0, 1, 0, 0, 1, 0, 0, 1, 0, 0, 1, 0, 0, 1, 1, 1, 1, 0] (codeOf f9)) ((((((((((((((((((((((((((((((((((((((((((((((((((((((((((f.put 56 (f.r 12)).put 57 v1).put 58 v2).put 59 v3).put 63 v4).put 64 (f.r 11)).put 65 (f.r 12)).put 66 v5).put 62 v5).put 67 v7).put 68 v8).put 13 v9).put 14 v8).put 69 v8).put 70 v12).put 71 v12).put 71 (Value.bool false)).put 72 v96).put 73 v97).put 74 v98).put 75 v98).put 76 v98).put 76 (Value.bool false)).put 77 v138).put 78 v139).put 79 v140).put 80 v141).put 81 v142).put 82 v142).put 83 v142).put 83 (Value.bool true)).put 84 undef).put 85 undef).put 86 undef).put 87 undef).put 88 undef).put 89 undef).put 90 undef).put 91 undef).put 92 undef).put 93 (Value.bool true)).put 94 (f.r 11)).put 95 v143).put 96 v143).put 96 (Value.bool true)).put 97 (f.r 10)).put 98 v144).put 99 v144).put 100 v144).put 100 (Value.bool false)).put 101 undef).put 102 undef).put 103 undef).put 104 undef).put 105 (Value.bool false)).put 107 (f.r 12)).put 108 v151).put 15 v151) h11 (contQ prog J 192 n0 9 [1, 1, 1, 1, 1, 1, 1, 0, 1, 0, 0, 1, 0, 0, 1, 0, 0, 1, 0, 0, 1, 1, 1, 1, 0] (codeOf f9) [nx0, nx1] (RetQ prog [.tmp 2] n0 K)))))
(cnd (Value.bool false)
(aOff v9 0 fun v152 =>
aLoad false 1 v152 h11 fun v153 =>
aBin prog .geq 3 v153 (f.r 5) fun v154 =>
cnd v154
(aBin prog .add 3 (f.r 12) (vint 1) fun v155 =>
Sem J 192 n0 9 (subC [1, 1, 1, 1, 1, 1, 1, 0, 1, 0, 0, 1, 0, 0, 1, 0, 0, 1, 0, 0, 1, 1, 1, 1, 0] (codeOf f9)) ((((((((((((((((((((((((((((((((((((((((((((((((((((((((((((f.put 56 (f.r 12)).put 57 v1).put 58 v2).put 59 v3).put 63 v4).put 64 (f.r 11)).put 65 (f.r 12)).put 66 v5).put 62 v5).put 67 v7).put 68 v8).put 13 v9).put 14 v8).put 69 v8).put 70 v12).put 71 v12).put 71 (Value.bool false)).put 72 v96).put 73 v97).put 74 v98).put 75 v98).put 76 v98).put 76 (Value.bool false)).put 77 v138).put 78 v139).put 79 v140).put 80 v141).put 81 v142).put 82 v142).put 83 v142).put 83 (Value.bool true)).put 84 undef).put 85 undef).put 86 undef).put 87 undef).put 88 undef).put 89 undef).put 90 undef).put 91 undef).put 92 undef).put 93 (Value.bool true)).put 94 (f.r 11)).put 95 v143).put 96 v143).put 96 (Value.bool false)).put 97 undef).put 98 undef).put 99 (Value.bool false)).put 100 (Value.bool false)).put 100 (Value.bool true)).put 101 v152).put 102 v153).put 103 (f.r 5)).put 104 v154).put 105 v154).put 106 (f.r 12)).put 10 (f.r 12)).put 107 (f.r 12)).put 108 v155).put 15 v155) h11 (contQ prog J 192 n0 9 [1, 1, 1, 1, 1, 1, 1, 0, 1, 0, 0, 1, 0, 0, 1, 0, 0, 1, 0, 0, 1, 1, 1, 1, 0] (codeOf f9) [nx0, nx1] (RetQ prog [.tmp 2] n0 K)))
(aBin prog .add 3 (f.r 12) (vint 1) fun v156 =>
Sem J 192 n0 9 (subC [1, 1, 1, 1, 1, 1, 1, 0, 1, 0, 0, 1, 0, 0, 1, 0, 0, 1, 0, 0, 1, 1, 1, 1, 0] (codeOf f9)) ((((((((((((((((((((((((((((((((((((((((((((((((((((((((((f.put 56 (f.r 12)).put 57 v1).put 58 v2).put 59 v3).put 63 v4).put 64 (f.r 11)).put 65 (f.r 12)).put 66 v5).put 62 v5).put 67 v7).put 68 v8).put 13 v9).put 14 v8).put 69 v8).put 70 v12).put 71 v12).put 71 (Value.bool false)).put 72 v96).put 73 v97).put 74 v98).put 75 v98).put 76 v98).put 76 (Value.bool false)).put 77 v138).put 78 v139).put 79 v140).put 80 v141).put 81 v142).put 82 v142).put 83 v142).put 83 (Value.bool true)).put 84 undef).put 85 undef).put 86 undef).put 87 undef).put 88 undef).put 89 undef).put 90 undef).put 91 undef).put 92 undef).put 93 (Value.bool true)).put 94 (f.r 11)).put 95 v143).put 96 v143).put 96 (Value.bool false)).put 97 undef).put 98 undef).put 99 (Value.bool false)).put 100 (Value.bool false)).put 100 (Value.bool true)).put 101 v152).put 102 v153).put 103 (f.r 5)).put 104 v154).put 105 v154).put 107 (f.r 12)).put 108 v156).put 15 v156) h11 (contQ prog J 192 n0 9 [1, 1, 1, 1, 1, 1, 1, 0, 1, 0, 0, 1, 0, 0, 1, 0, 0, 1, 0, 0, 1, 1, 1, 1, 0] (codeOf f9) [nx0, nx1] (RetQ prog [.tmp 2] n0 K))))
(cnd (Value.bool false)
(aBin prog .add 3 (f.r 12) (vint 1) fun v157 =>
Sem J 192 n0 9 (subC [1, 1, 1, 1, 1, 1, 1, 0, 1, 0, 0, 1, 0, 0, 1, 0, 0, 1, 0, 0, 1, 1, 1, 1, 0] (codeOf f9)) ((((((((((((((((((((((((((((((((((((((((((((((((((((((((((((f.put 56 (f.r 12)).put 57 v1).put 58 v2).put 59 v3).put 63 v4).put 64 (f.r 11)).put 65 (f.r 12)).put 66 v5).put 62 v5).put 67 v7).put 68 v8).put 13 v9).put 14 v8).put 69 v8).put 70 v12).put 71 v12).put 71 (Value.bool false)).put 72 v96).put 73 v97).put 74 v98).put 75 v98).put 76 v98).put 76 (Value.bool false)).put 77 v138).put 78 v139).put 79 v140).put 80 v141).put 81 v142).put 82 v142).put 83 v142).put 83 (Value.bool true)).put 84 undef).put 85 undef).put 86 undef).put 87 undef).put 88 undef).put 89 undef).put 90 undef).put 91 undef).put 92 undef).put 93 (Value.bool true)).put 94 (f.r 11)).put 95 v143).put 96 v143).put 96 (Value.bool false)).put 97 undef).put 98 undef).put 99 (Value.bool false)).put 100 (Value.bool false)).put 100 (Value.bool false)).put 101 undef).put 102 undef).put 103 undef).put 104 undef).put 105 (Value.bool false)).put 106 (f.r 12)).put 10 (f.r 12)).put 107 (f.r 12)).put 108 v157).put 15 v157) h11 (contQ prog J 192 n0 9 [1, 1, 1, 1, 1, 1, 1, 0, 1, 0, 0, 1, 0, 0, 1, 0, 0, 1, 0, 0, 1, 1, 1, 1, 0] (codeOf f9) [nx0, nx1] (RetQ prog [.tmp 2] n0 K)))
(aBin prog .add 3 (f.r 12) (vint 1) fun v158 =>
Sem J 192 n0 9 (subC [1, 1, 1, 1, 1, 1, 1, 0, 1, 0, 0, 1, 0, 0, 1, 0, 0, 1, 0, 0, 1, 1, 1, 1, 0] (codeOf f9)) ((((((((((((((((((((((((((((((((((((((((((((((((((((((((((f.put 56 (f.r 12)).put 57 v1).put 58 v2).put 59 v3).put 63 v4).put 64 (f.r 11)).put 65 (f.r 12)).put 66 v5).put 62 v5).put 67 v7).put 68 v8).put 13 v9).put 14 v8).put 69 v8).put 70 v12).put 71 v12).put 71 (Value.bool false)).put 72 v96).put 73 v97).put 74 v98).put 75 v98).put 76 v98).put 76 (Value.bool false)).put 77 v138).put 78 v139).put 79 v140).put 80 v141).put 81 v142).put 82 v142).put 83 v142).put 83 (Value.bool true)).put 84 undef).put 85 undef).put 86 undef).put 87 undef).put 88 undef).put 89 undef).put 90 undef).put 91 undef).put 92 undef).put 93 (Value.bool true)).put 94 (f.r 11)).put 95 v143).put 96 v143).put 96 (Value.bool false)).put 97 undef).put 98 undef).put 99 (Value.bool false)).put 100 (Value.bool false)).put 100 (Value.bool false)).put 101 undef).put 102 undef).put 103 undef).put 104 undef).put 105 (Value.bool false)).put 107 (f.r 12)).put 108 v158).put 15 v158) h11 (contQ prog J 192 n0 9 [1, 1, 1, 1, 1, 1, 1, 0, 1, 0, 0, 1, 0, 0, 1, 0, 0, 1, 0, 0, 1, 1, 1, 1, 0] (codeOf f9) [nx0, nx1] (RetQ prog [.tmp 2] n0 K)))))))
(aOff v9 1 fun v159 =>
aLoad false 1 v159 h11 fun v160 =>
aOff (f.r 4) 4 fun v161 =>
aLoad false 1 v161 h11 fun v162 =>
aBin prog .sub 3 (f.r 12) (f.r 11) fun v163 =>
aBin prog .mul 3 v162 v163 fun v164 =>
aBin prog .gtr 3 v160 v164 fun v165 =>
cnd v165
(retL n0 K f.ds [(Value.bool false)] h11)
(aBin prog .eql 3 (f.r 11) (vint 0) fun v166 =>
cnd v166
(aBin prog .lss 3 (f.r 10) (vint 0) fun v167 =>
cnd v167
(aOff v9 0 fun v168 =>
aLoad false 1 v168 h11 fun v169 =>
aBin prog .geq 3 v169 (f.r 5) fun v170 =>
cnd v170
(aBin prog .add 3 (f.r 12) (vint 1) fun v171 =>
Sem J 192 n0 9 (subC [1, 1, 1, 1, 1, 1, 1, 0, 1, 0, 0, 1, 0, 0, 1, 0, 0, 1, 0, 0, 1, 1, 1, 1, 0] (codeOf f9)) ((((((((((((((((((((((((((((((((((((((((((((((((((((((((((((f.put 56 (f.r 12)).put 57 v1).put 58 v2).put 59 v3).put 63 v4).put 64 (f.r 11)).put 65 (f.r 12)).put 66 v5).put 62 v5).put 67 v7).put 68 v8).put 13 v9).put 14 v8).put 69 v8).put 70 v12).put 71 v12).put 71 (Value.bool false)).put 72 v96).put 73 v97).put 74 v98).put 75 v98).put 76 v98).put 76 (Value.bool false)).put 77 v138).put 78 v139).put 79 v140).put 80 v141).put 81 v142).put 82 v142).put 83 v142).put 83 (Value.bool false)).put 84 v159).put 85 v160).put 86 v161).put 87 v162).put 88 (f.r 12)).put 89 (f.r 11)).put 90 v163).put 91 v164).put 92 v165).put 93 v165).put 94 (f.r 11)).put 95 v166).put 96 v166).put 96 (Value.bool true)).put 97 (f.r 10)).put 98 v167).put 99 v167).put 100 v167).put 100 (Value.bool true)).put 101 v168).put 102 v169).put 103 (f.r 5)).put 104 v170).put 105 v170).put 106 (f.r 12)).put 10 (f.r 12)).put 107 (f.r 12)).put 108 v171).put 15 v171) h11 (contQ prog J 192 n0 9 [1, 1, 1, 1, 1, 1, 1, 0, 1, 0, 0, 1, 0, 0, 1, 0, 0, 1, 0, 0, 1, 1, 1, 1, 0] (codeOf f9) [nx0, nx1] (RetQ prog [.tmp 2] n0 K)))
(aBin prog .add 3 (f.r 12) (vint 1) fun v172 =>
Sem J 192 n0 9 (subC [1, 1, 1, 1, 1, 1, 1, 0, 1, 0, 0, 1, 0, 0, 1, 0, 0, 1, 0, 0, 1, 1, 1, 1, 0] (codeOf f9)) ((((((((((((((((((((((((((((((((((((((((((((((((((((((((((f.put 56 (f.r 12)).put 57 v1).put 58 v2).put 59 v3).put 63 v4).put 64 (f.r 11)).put 65 (f.r 12)).put 66 v5).put 62 v5).put 67 v7).put 68 v8).put 13 v9).put 14 v8).put 69 v8).put 70 v12).put 71 v12).put 71 (Value.bool false)).put 72 v96).put 73 v97).put 74 v98).put 75 v98).put 76 v98).put 76 (Value.bool false)).put 77 v138).put 78 v139).put 79 v140).put 80 v141).put 81 v142).put 82 v142).put 83 v142).put 83 (Value.bool false)).put 84 v159).put 85 v160).put 86 v161).put 87 v162).put 88 (f.r 12)).put 89 (f.r 11)).put 90 v163).put 91 v164).put 92 v165).put 93 v165).put 94 (f.r 11)).put 95 v166).put 96 v166).put 96 (Value.bool true)).put 97 (f.r 10)).put 98 v167).put 99 v167).put 100 v167).put 100 (Value.bool true)).put 101 v168).put 102 v169).put 103 (f.r 5)).put 104 v170).put 105 v170).put 107 (f.r 12)).put 108 v172).put 15 v172) h11 (contQ prog J 192 n0 9 [1, 1, 1, 1, 1, 1, 1, 0, 1, 0, 0, 1, 0, 0, 1, 0, 0, 1, 0, 0, 1, 1, 1, 1, 0] (codeOf f9) [nx0, nx1] (RetQ prog [.tmp 2] n0 K))))
(cnd (Value.bool false)
(aBin prog .add 3 (f.r 12) (vint 1) fun v173 =>
Sem J 192 n0 9 (subC [1, 1, 1, 1, 1, 1, 1, 0, 1, 0, 0, 1, 0, 0, 1, 0, 0, 1, 0, 0, 1, 1, 1, 1, 0] (codeOf f9)) ((((((((((((((((((((((((((((((((((((((((((((((((((((((((((((f.put 56 (f.r 12)).put 57 v1).put 58 v2).put 59 v3).put 63 v4).put 64 (f.r 11)).put 65 (f.r 12)).put 66 v5).put 62 v5).put 67 v7).put 68 v8).put 13 v9).put 14 v8).put 69 v8).put 70 v12).put 71 v12).put 71 (Value.bool false)).put 72 v96).put 73 v97).put 74 v98).put 75 v98).put 76 v98).put 76 (Value.bool false)).put 77 v138).put 78 v139).put 79 v140).put 80 v141).put 81 v142).put 82 v142).put 83 v142).put 83 (Value.bool false)).put 84 v159).put 85 v160).put 86 v161).put 87 v162).put 88 (f.r 12)).put 89 (f.r 11)).put 90 v163).put 91 v164).put 92 v165).put 93 v165).put 94 (f.r 11)).put 95 v166).put 96 v166).put 96 (Value.bool true)).put 97 (f.r 10)).put 98 v167).put 99 v167).put 100 v167).put 100 (Value.bool false)).put 101 undef).put 102 undef).put 103 undef).put 104 undef).put 105 (Value.bool false)).put 106 (f.r 12)).put 10 (f.r 12)).put 107 (f.r 12)).put 108 v173).put 15 v173) h11 (contQ prog J 192 n0 9 [1, 1, 1, 1, 1, 1, 1, 0, 1, 0, 0, 1, 0, 0, 1, 0, 0, 1, 0, 0, 1, 1, 1, 1, 0] (codeOf f9) [nx0, nx1] (RetQ prog [.tmp 2] n0 K)))
(aBin prog .add 3 (f.r 12) (vint 1) fun v174 =>
Sem J 192 n0 9 (subC [1, 1, 1, 1, 1, 1, 1, 0, 1, 0, 0, 1, 0, 0, 1, 0, 0, 1, 0, 0, 1, 1, 1, 1, 0] (codeOf f9)) ((((((((((((((((((((((((((((((((((((((((((((((((((((((((((f.put 56 (f.r 12)).put 57 v1).put 58 v2).put 59 v3).put 63 v4).put 64 (f.r 11)).put 65 (f.r 12)).put 66 v5).put 62 v5).put 67 v7).put 68 v8).put 13 v9).put 14 v8).put 69 v8).put 70 v12).put 71 v12).put 71 (Value.bool false)).put 72 v96).put 73 v97).put 74 v98).put 75 v98).put 76 v98).put 76 (Value.bool false)).put 77 v138).put 78 v139).put 79 v140).put 80 v141).put 81 v142).put 82 v142).put 83 v142).put 83 (Value.bool false)).put 84 v159).put 85 v160).put 86 v161).put 87 v162).put 88 (f.r 12)).put 89 (f.r 11)).put 90 v163).put 91 v164).put 92 v165).put 93 v165).put 94 (f.r 11)).put 95 v166).put 96 v166).put 96 (Value.bool true)).put 97 (f.r 10)).put 98 v167).put 99 v167).put 100 v167).put 100 (Value.bool false)).put 101 undef).put 102 undef).put 103 undef).put 104 undef).put 105 (Value.bool false)).put 107 (f.r 12)).put 108 v174).put 15 v174) h11 (contQ prog J 192 n0 9 [1, 1, 1, 1, 1, 1, 1, 0, 1, 0, 0, 1, 0, 0, 1, 0, 0, 1, 0, 0, 1, 1, 1, 1, 0] (codeOf f9) [nx0, nx1] (RetQ prog [.tmp 2] n0 K)))))
(cnd (Value.bool false)
(aOff v9 0 fun v175 =>
aLoad false 1 v175 h11 fun v176 =>
aBin prog .geq 3 v176 (f.r 5) fun v177 =>
cnd v177
(aBin prog .add 3 (f.r 12) (vint 1) fun v178 =>
Sem J 192 n0 9 (subC [1, 1, 1, 1, 1, 1, 1, 0, 1, 0, 0, 1, 0, 0, 1, 0, 0, 1, 0, 0, 1, 1, 1, 1, 0] (codeOf f9)) ((((((((((((((((((((((((((((((((((((((((((((((((((((((((((((f.put 56 (f.r 12)).put 57 v1).put 58 v2).put 59 v3).put 63 v4).put 64 (f.r 11)).put 65 (f.r 12)).put 66 v5).put 62 v5).put 67 v7).put 68 v8).put 13 v9).put 14 v8).put 69 v8).put 70 v12).put 71 v12).put 71 (Value.bool false)).put 72 v96).put 73 v97).put 74 v98).put 75 v98).put 76 v98).put 76 (Value.bool false)).put 77 v138).put 78 v139).put 79 v140).put 80 v141).put 81 v142).put 82 v142).put 83 v142).put 83 (Value.bool false)).put 84 v159).put 85 v160).put 86 v161).put 87 v162).put 88 (f.r 12)).put 89 (f.r 11)).put 90 v163).put 91 v164).put 92 v165).put 93 v165).put 94 (f.r 11)).put 95 v166).put 96 v166).put 96 (Value.bool false)).put 97 undef).put 98 undef).put 99 (Value.bool false)).put 100 (Value.bool false)).put 100 (Value.bool true)).put 101 v175).put 102 v176).put 103 (f.r 5)).put 104 v177).put 105 v177).put 106 (f.r 12)).put 10 (f.r 12)).put 107 (f.r 12)).put 108 v178).put 15 v178) h11 (contQ prog J 192 n0 9 [1, 1, 1, 1, 1, 1, 1, 0, 1, 0, 0, 1, 0, 0, 1, 0, 0, 1, 0, 0, 1, 1, 1, 1, 0] (codeOf f9) [nx0, nx1] (RetQ prog [.tmp 2] n0 K)))
(aBin prog .add 3 (f.r 12) (vint 1) fun v179 =>
Sem J 192 n0 9 (subC [1, 1, 1, 1, 1, 1, 1, 0, 1, 0, 0, 1, 0, 0, 1, 0, 0, 1, 0, 0, 1, 1, 1, 1, 0] (codeOf f9)) ((((((((((((((((((((((((((((((((((((((((((((((((((((((((((f.put 56 (f.r 12)).put 57 v1).put 58 v2).put 59 v3).put 63 v4).put 64 (f.r 11)).put 65 (f.r 12)).put 66 v5).put 62 v5).put 67 v7).put 68 v8).put 13 v9).put 14 v8).put 69 v8).put 70 v12).put 71 v12).put 71 (Value.bool false)).put 72 v96).put 73 v97).put 74 v98).put 75 v98).put 76 v98).put 76 (Value.bool false)).put 77 v138).put 78 v139).put 79 v140).put 80 v141).put 81 v142).put 82 v142).put 83 v142).put 83 (Value.bool false)).put 84 v159).put 85 v160).put 86 v161).put 87 v162).put 88 (f.r 12)).put 89 (f.r 11)).put 90 v163).put 91 v164).put 92 v165).put 93 v165).put 94 (f.r 11)).put 95 v166).put 96 v166).put 96 (Value.bool false)).put 97 undef).put 98 undef).put 99 (Value.bool false)).put 100 (Value.bool false)).put 100 (Value.bool true)).put 101 v175).put 102 v176).put 103 (f.r 5)).put 104 v177).put 105 v177).put 107 (f.r 12)).put 108 v179).put 15 v179) h11 (contQ prog J 192 n0 9 [1, 1, 1, 1, 1, 1, 1, 0, 1, 0, 0, 1, 0, 0, 1, 0, 0, 1, 0, 0, 1, 1, 1, 1, 0] (codeOf f9) [nx0, nx1] (RetQ prog [.tmp 2] n0 K))))
(cnd (Value.bool false)
(aBin prog .add 3 (f.r 12) (vint 1) fun v180 =>
Sem J 192 n0 9 (subC [1, 1, 1, 1, 1, 1, 1, 0, 1, 0, 0, 1, 0, 0, 1, 0, 0, 1, 0, 0, 1, 1, 1, 1, 0] (codeOf f9)) ((((((((((((((((((((((((((((((((((((((((((((((((((((((((((((f.put 56 (f.r 12)).put 57 v1).put 58 v2).put 59 v3).put 63 v4).put 64 (f.r 11)).put 65 (f.r 12)).put 66 v5).put 62 v5).put 67 v7).put 68 v8).put 13 v9).put 14 v8).put 69 v8).put 70 v12).put 71 v12).put 71 (Value.bool false)).put 72 v96).put 73 v97).put 74 v98).put 75 v98).put 76 v98).put 76 (Value.bool false)).put 77 v138).put 78 v139).put 79 v140).put 80 v141).put 81 v142).put 82 v142).put 83 v142).put 83 (Value.bool false)).put 84 v159).put 85 v160).put 86 v161).put 87 v162).put 88 (f.r 12)).put 89 (f.r 11)).put 90 v163).put 91 v164).put 92 v165).put 93 v165).put 94 (f.r 11)).put 95 v166).put 96 v166).put 96 (Value.bool false)).put 97 undef).put 98 undef).put 99 (Value.bool false)).put 100 (Value.bool false)).put 100 (Value.bool false)).put 101 undef).put 102 undef).put 103 undef).put 104 undef).put 105 (Value.bool false)).put 106 (f.r 12)).put 10 (f.r 12)).put 107 (f.r 12)).put 108 v180).put 15 v180) h11 (contQ prog J 192 n0 9 [1, 1, 1, 1, 1, 1, 1, 0, 1, 0, 0, 1, 0, 0, 1, 0, 0, 1, 0, 0, 1, 1, 1, 1, 0] (codeOf f9) [nx0, nx1] (RetQ prog [.tmp 2] n0 K)))
(aBin prog .add 3 (f.r 12) (vint 1) fun v181 =>
Sem J 192 n0 9 (subC [1, 1, 1, 1, 1, 1, 1, 0, 1, 0, 0, 1, 0, 0, 1, 0, 0, 1, 0, 0, 1, 1, 1, 1, 0] (codeOf f9)) ((((((((((((((((((((((((((((((((((((((((((((((((((((((((((f.put 56 (f.r 12)).put 57 v1).put 58 v2).put 59 v3).put 63 v4).put 64 (f.r 11)).put 65 (f.r 12)).put 66 v5).put 62 v5).put 67 v7).put 68 v8).put 13 v9).put 14 v8).put 69 v8).put 70 v12).put 71 v12).put 71 (Value.bool false)).put 72 v96).put 73 v97).put 74 v98).put 75 v98).put 76 v98).put 76 (Value.bool false)).put 77 v138).put 78 v139).put 79 v140).put 80 v141).put 81 v142).put 82 v142).put 83 v142).put 83 (Value.bool false)).put 84 v159).put 85 v160).put 86 v161).put 87 v162).put 88 (f.r 12)).put 89 (f.r 11)).put 90 v163).put 91 v164).put 92 v165).put 93 v165).put 94 (f.r 11)).put 95 v166).put 96 v166).put 96 (Value.bool false)).put 97 undef).put 98 undef).put 99 (Value.bool false)).put 100 (Value.bool false)).put 100 (Value.bool false)).put 101 undef).put 102 undef).put 103 undef).put 104 undef).put 105 (Value.bool false)).put 107 (f.r 12)).put 108 v181).put 15 v181) h11 (contQ prog J 192 n0 9 [1, 1, 1, 1, 1, 1, 1, 0, 1, 0, 0, 1, 0, 0, 1, 0, 0, 1, 0, 0, 1, 1, 1, 1, 0] (codeOf f9) [nx0, nx1] (RetQ prog [.tmp 2] n0 K))))))))))
(aBin prog .add 3 (f.r 11) (vint 1) fun v182 =>
nx0 (((((((f.put 56 (f.r 12)).put 57 v1).put 58 v2).put 59 v3).put 52 (f.r 11)).put 53 v182).put 11 v182) h)) := by kernel_rfl
theorem l9_2 (hJ : Closed prog main J) {nx0 : RG → List AObj → Prop} {S : Type} (μ : S → Nat) (I : S → RG → List AObj → Prop) (hI : ∀ s f h, I s f h → heapOk h → n0 ≤ h.length → W prog J 192 n0 9 (subC [1, 1, 1, 1, 1, 1, 1, 0, 1, 0, 0, 1, 0, 0, 1, 0, 0] (codeOf f9)) f h (thenK (Nx n0 μ I s) (contQ prog J 192 n0 9 [1, 1, 1, 1, 1, 1, 1, 0, 1, 0, 0, 1, 0, 0, 1, 0] (codeOf f9) [nx0] (RetQ prog [.tmp 2] n0 K))))
  {s : S} {f : RG} (hi : Gets n0 I s f h) : Sem J 192 n0 9 (subC [1, 1, 1, 1, 1, 1, 1, 0, 1, 0, 0, 1, 0, 0, 1, 0] (codeOf f9)) f h (contQ prog J 192 n0 9 [1, 1, 1, 1, 1, 1, 1, 0, 1, 0, 0, 1, 0, 0, 1, 0] (codeOf f9) [nx0] (RetQ prog [.tmp 2] n0 K)) :=
  loop_rule hJ mixed (b := subC [1, 1, 1, 1, 1, 1, 1, 0, 1, 0, 0, 1, 0, 0, 1, 0, 0] (codeOf f9)) (by kernel_rfl) μ I hI hi
-- loop [1, 1, 1, 1, 1, 1, 1, 0, 1, 0, 0, 1, 0, 0, 1, 0, 0, 1, 0, 0, 1, 1, 1, 1, 0, 0]
theorem s9_3 {f : RG} {nx0 nx1 nx2 : RG → List AObj → Prop} : W prog J 192 n0 9 (subC [1, 1, 1, 1, 1, 1, 1, 0, 1, 0, 0, 1, 0, 0, 1, 0, 0, 1, 0, 0, 1, 1, 1, 1, 0, 0] (codeOf f9)) f h (thenK nx2 (contQ prog J 192 n0 9 [1, 1, 1, 1, 1, 1, 1, 0, 1, 0, 0, 1, 0, 0, 1, 0, 0, 1, 0, 0, 1, 1, 1, 1, 0] (codeOf f9) [nx0, nx1] (RetQ prog [.tmp 2] n0 K))) =
(aOff (f.r 4) 0 fun v1 =>
aLoad false 1 v1 h fun v2 =>
aBin prog .lss 3 (f.r 15) v2 fun v3 =>
cnd v3
(aLoad true 6 (f.r 4) h fun v4 =>
Good prog J 31 [v4, (f.r 12), (f.r 15)] h fun v5 h6 =>
aExt v5 0 fun v7 =>
aExt v5 1 fun v8 =>
aAlloc [(vint 0), (vint 0)] h6 fun v9 h10 =>
aStore 2 v9 v7 h10 fun h11 =>
aLoad true 6 (f.r 4) h11 fun v12 =>
Good prog J 31 [v12, (f.r 11), (f.r 15)] h11 fun v13 h14 =>
aExt v13 0 fun v15 =>
aExt v13 1 fun v16 =>
aAlloc [(vint 0), (vint 0)] h14 fun v17 h18 =>
aStore 2 v17 v15 h18 fun h19 =>
aBin prog .neq 32 v8 (vint 0) fun v20 =>
cnd v20
(cnd (Value.bool true)
(cnd (Value.bool true)
(cnd (Value.bool true)
(cnd (Value.bool true)
(cnd (Value.bool true)
(retL n0 K f.ds [(Value.bool false)] h19)
(aBin prog .add 3 (f.r 15) (vint 1) fun v21 =>
nx2 ((((((((((((((((((((((((((((((((((((((((((((((((((((((((((((((((((((((f.put 109 (f.r 15)).put 110 v1).put 111 v2).put 112 v3).put 116 v4).put 117 (f.r 12)).put 118 (f.r 15)).put 119 v5).put 115 v5).put 120 v7).put 121 v8).put 16 v9).put 17 v8).put 123 v12).put 124 (f.r 11)).put 125 (f.r 15)).put 126 v13).put 122 v13).put 127 v15).put 128 v16).put 18 v17).put 19 v16).put 129 v8).put 130 v20).put 131 v20).put 131 (Value.bool true)).put 132 undef).put 133 undef).put 134 (Value.bool true)).put 135 (Value.bool true)).put 135 (Value.bool true)).put 136 undef).put 137 undef).put 138 undef).put 139 undef).put 140 undef).put 141 undef).put 142 undef).put 143 undef).put 144 (Value.bool true)).put 145 (Value.bool true)).put 145 (Value.bool true)).put 146 undef).put 147 undef).put 148 undef).put 149 undef).put 150 undef).put 151 undef).put 152 undef).put 153 undef).put 154 (Value.bool true)).put 155 (Value.bool true)).put 155 (Value.bool true)).put 156 undef).put 157 undef).put 158 undef).put 159 undef).put 160 undef).put 161 (Value.bool true)).put 162 (Value.bool true)).put 162 (Value.bool true)).put 163 undef).put 164 undef).put 165 undef).put 166 undef).put 167 undef).put 168 (Value.bool true)).put 113 (f.r 15)).put 114 v21).put 15 v21) h19))
(aOff v17 1 fun v22 =>
aLoad false 1 v22 h19 fun v23 =>
aOff v9 1 fun v24 =>
aLoad false 1 v24 h19 fun v25 =>
aBin prog .lss 3 v23 v25 fun v26 =>
cnd v26
(retL n0 K f.ds [(Value.bool false)] h19)
(aBin prog .add 3 (f.r 15) (vint 1) fun v27 =>
nx2 ((((((((((((((((((((((((((((((((((((((((((((((((((((((((((((((((((((((f.put 109 (f.r 15)).put 110 v1).put 111 v2).put 112 v3).put 116 v4).put 117 (f.r 12)).put 118 (f.r 15)).put 119 v5).put 115 v5).put 120 v7).put 121 v8).put 16 v9).put 17 v8).put 123 v12).put 124 (f.r 11)).put 125 (f.r 15)).put 126 v13).put 122 v13).put 127 v15).put 128 v16).put 18 v17).put 19 v16).put 129 v8).put 130 v20).put 131 v20).put 131 (Value.bool true)).put 132 undef).put 133 undef).put 134 (Value.bool true)).put 135 (Value.bool true)).put 135 (Value.bool true)).put 136 undef).put 137 undef).put 138 undef).put 139 undef).put 140 undef).put 141 undef).put 142 undef).put 143 undef).put 144 (Value.bool true)).put 145 (Value.bool true)).put 145 (Value.bool true)).put 146 undef).put 147 undef).put 148 undef).put 149 undef).put 150 undef).put 151 undef).put 152 undef).put 153 undef).put 154 (Value.bool true)).put 155 (Value.bool true)).put 155 (Value.bool true)).put 156 undef).put 157 undef).put 158 undef).put 159 undef).put 160 undef).put 161 (Value.bool true)).put 162 (Value.bool true)).put 162 (Value.bool false)).put 163 v22).put 164 v23).put 165 v24).put 166 v25).put 167 v26).put 168 v26).put 113 (f.r 15)).put 114 v27).put 15 v27) h19)))
(aOff v17 1 fun v28 =>
aLoad false 1 v28 h19 fun v29 =>
aOff (f.r 13) 1 fun v30 =>
aLoad false 1 v30 h19 fun v31 =>
aBin prog .lss 3 v29 v31 fun v32 =>
cnd v32
(cnd (Value.bool true)
(retL n0 K f.ds [(Value.bool false)] h19)
(aBin prog .add 3 (f.r 15) (vint 1) fun v33 =>
nx2 ((((((((((((((((((((((((((((((((((((((((((((((((((((((((((((((((((((((f.put 109 (f.r 15)).put 110 v1).put 111 v2).put 112 v3).put 116 v4).put 117 (f.r 12)).put 118 (f.r 15)).put 119 v5).put 115 v5).put 120 v7).put 121 v8).put 16 v9).put 17 v8).put 123 v12).put 124 (f.r 11)).put 125 (f.r 15)).put 126 v13).put 122 v13).put 127 v15).put 128 v16).put 18 v17).put 19 v16).put 129 v8).put 130 v20).put 131 v20).put 131 (Value.bool true)).put 132 undef).put 133 undef).put 134 (Value.bool true)).put 135 (Value.bool true)).put 135 (Value.bool true)).put 136 undef).put 137 undef).put 138 undef).put 139 undef).put 140 undef).put 141 undef).put 142 undef).put 143 undef).put 144 (Value.bool true)).put 145 (Value.bool true)).put 145 (Value.bool true)).put 146 undef).put 147 undef).put 148 undef).put 149 undef).put 150 undef).put 151 undef).put 152 undef).put 153 undef).put 154 (Value.bool true)).put 155 (Value.bool true)).put 155 (Value.bool false)).put 156 v28).put 157 v29).put 158 v30).put 159 v31).put 160 v32).put 161 v32).put 162 v32).put 162 (Value.bool true)).put 163 undef).put 164 undef).put 165 undef).put 166 undef).put 167 undef).put 168 (Value.bool true)).put 113 (f.r 15)).put 114 v33).put 15 v33) h19))
(aOff v17 1 fun v34 =>
aLoad false 1 v34 h19 fun v35 =>
aOff v9 1 fun v36 =>
aLoad false 1 v36 h19 fun v37 =>
aBin prog .lss 3 v35 v37 fun v38 =>
cnd v38
(retL n0 K f.ds [(Value.bool false)] h19)
(aBin prog .add 3 (f.r 15) (vint 1) fun v39 =>
nx2 ((((((((((((((((((((((((((((((((((((((((((((((((((((((((((((((((((((((f.put 109 (f.r 15)).put 110 v1).put 111 v2).put 112 v3).put 116 v4).put 117 (f.r 12)).put 118 (f.r 15)).put 119 v5).put 115 v5).put 120 v7).put 121 v8).put 16 v9).put 17 v8).put 123 v12).put 124 (f.r 11)).put 125 (f.r 15)).put 126 v13).put 122 v13).put 127 v15).put 128 v16).put 18 v17).put 19 v16).put 129 v8).put 130 v20).put 131 v20).put 131 (Value.bool true)).put 132 undef).put 133 undef).put 134 (Value.bool true)).put 135 (Value.bool true)).put 135 (Value.bool true)).put 136 undef).put 137 undef).put 138 undef).put 139 undef).put 140 undef).put 141 undef).put 142 undef).put 143 undef).put 144 (Value.bool true)).put 145 (Value.bool true)).put 145 (Value.bool true)).put 146 undef).put 147 undef).put 148 undef).put 149 undef).put 150 undef).put 151 undef).put 152 undef).put 153 undef).put 154 (Value.bool true)).put 155 (Value.bool true)).put 155 (Value.bool false)).put 156 v28).put 157 v29).put 158 v30).put 159 v31).put 160 v32).put 161 v32).put 162 v32).put 162 (Value.bool false)).put 163 v34).put 164 v35).put 165 v36).put 166 v37).put 167 v38).put 168 v38).put 113 (f.r 15)).put 114 v39).put 15 v39) h19))))
(aOff v17 1 fun v40 =>
aLoad false 1 v40 h19 fun v41 =>
aOff (f.r 13) 1 fun v42 =>
aLoad false 1 v42 h19 fun v43 =>
aOff v9 1 fun v44 =>
aLoad false 1 v44 h19 fun v45 =>
aBin prog .add 3 v43 v45 fun v46 =>
aBin prog .gtr 3 v41 v46 fun v47 =>
cnd v47
(cnd (Value.bool true)
(cnd (Value.bool true)
(retL n0 K f.ds [(Value.bool false)] h19)
(aBin prog .add 3 (f.r 15) (vint 1) fun v48 =>
nx2 ((((((((((((((((((((((((((((((((((((((((((((((((((((((((((((((((((((((f.put 109 (f.r 15)).put 110 v1).put 111 v2).put 112 v3).put 116 v4).put 117 (f.r 12)).put 118 (f.r 15)).put 119 v5).put 115 v5).put 120 v7).put 121 v8).put 16 v9).put 17 v8).put 123 v12).put 124 (f.r 11)).put 125 (f.r 15)).put 126 v13).put 122 v13).put 127 v15).put 128 v16).put 18 v17).put 19 v16).put 129 v8).put 130 v20).put 131 v20).put 131 (Value.bool true)).put 132 undef).put 133 undef).put 134 (Value.bool true)).put 135 (Value.bool true)).put 135 (Value.bool true)).put 136 undef).put 137 undef).put 138 undef).put 139 undef).put 140 undef).put 141 undef).put 142 undef).put 143 undef).put 144 (Value.bool true)).put 145 (Value.bool true)).put 145 (Value.bool false)).put 146 v40).put 147 v41).put 148 v42).put 149 v43).put 150 v44).put 151 v45).put 152 v46).put 153 v47).put 154 v47).put 155 v47).put 155 (Value.bool true)).put 156 undef).put 157 undef).put 158 undef).put 159 undef).put 160 undef).put 161 (Value.bool true)).put 162 (Value.bool true)).put 162 (Value.bool true)).put 163 undef).put 164 undef).put 165 undef).put 166 undef).put 167 undef).put 168 (Value.bool true)).put 113 (f.r 15)).put 114 v48).put 15 v48) h19))
(aOff v17 1 fun v49 =>
aLoad false 1 v49 h19 fun v50 =>
aOff v9 1 fun v51 =>
aLoad false 1 v51 h19 fun v52 =>
aBin prog .lss 3 v50 v52 fun v53 =>
cnd v53
(retL n0 K f.ds [(Value.bool false)] h19)
(aBin prog .add 3 (f.r 15) (vint 1) fun v54 =>
nx2 ((((((((((((((((((((((((((((((((((((((((((((((((((((((((((((((((((((((f.put 109 (f.r 15)).put 110 v1).put 111 v2).put 112 v3).put 116 v4).put 117 (f.r 12)).put 118 (f.r 15)).put 119 v5).put 115 v5).put 120 v7).put 121 v8).put 16 v9).put 17 v8).put 123 v12).put 124 (f.r 11)).put 125 (f.r 15)).put 126 v13).put 122 v13).put 127 v15).put 128 v16).put 18 v17).put 19 v16).put 129 v8).put 130 v20).put 131 v20).put 131 (Value.bool true)).put 132 undef).put 133 undef).put 134 (Value.bool true)).put 135 (Value.bool true)).put 135 (Value.bool true)).put 136 undef).put 137 undef).put 138 undef).put 139 undef).put 140 undef).put 141 undef).put 142 undef).put 143 undef).put 144 (Value.bool true)).put 145 (Value.bool true)).put 145 (Value.bool false)).put 146 v40).put 147 v41).put 148 v42).put 149 v43).put 150 v44).put 151 v45).put 152 v46).put 153 v47).put 154 v47).put 155 v47).put 155 (Value.bool true)).put 156 undef).put 157 undef).put 158 undef).put 159 undef).put 160 undef).put 161 (Value.bool true)).put 162 (Value.bool true)).put 162 (Value.bool false)).put 163 v49).put 164 v50).put 165 v51).put 166 v52).put 167 v53).put 168 v53).put 113 (f.r 15)).put 114 v54).put 15 v54) h19)))
(aOff v17 1 fun v55 =>
aLoad false 1 v55 h19 fun v56 =>
aOff (f.r 13) 1 fun v57 =>
aLoad false 1 v57 h19 fun v58 =>
aBin prog .lss 3 v56 v58 fun v59 =>
cnd v59
(cnd (Value.bool true)
(retL n0 K f.ds [(Value.bool false)] h19)
(aBin prog .add 3 (f.r 15) (vint 1) fun v60 =>
nx2 ((((((((((((((((((((((((((((((((((((((((((((((((((((((((((((((((((((((f.put 109 (f.r 15)).put 110 v1).put 111 v2).put 112 v3).put 116 v4).put 117 (f.r 12)).put 118 (f.r 15)).put 119 v5).put 115 v5).put 120 v7).put 121 v8).put 16 v9).put 17 v8).put 123 v12).put 124 (f.r 11)).put 125 (f.r 15)).put 126 v13).put 122 v13).put 127 v15).put 128 v16).put 18 v17).put 19 v16).put 129 v8).put 130 v20).put 131 v20).put 131 (Value.bool true)).put 132 undef).put 133 undef).put 134 (Value.bool true)).put 135 (Value.bool true)).put 135 (Value.bool true)).put 136 undef).put 137 undef).put 138 undef).put 139 undef).put 140 undef).put 141 undef).put 142 undef).put 143 undef).put 144 (Value.bool true)).put 145 (Value.bool true)).put 145 (Value.bool false)).put 146 v40).put 147 v41).put 148 v42).put 149 v43).put 150 v44).put 151 v45).put 152 v46).put 153 v47).put 154 v47).put 155 v47).put 155 (Value.bool false)).put 156 v55).put 157 v56).put 158 v57).put 159 v58).put 160 v59).put 161 v59).put 162 v59).put 162 (Value.bool true)).put 163 undef).put 164 undef).put 165 undef).put 166 undef).put 167 undef).put 168 (Value.bool true)).put 113 (f.r 15)).put 114 v60).put 15 v60) h19))
(aOff v17 1 fun v61 =>
aLoad false 1 v61 h19 fun v62 =>
aOff v9 1 fun v63 =>
aLoad false 1 v63 h19 fun v64 =>
aBin prog .lss 3 v62 v64 fun v65 =>
cnd v65
(retL n0 K f.ds [(Value.bool false)] h19)
(aBin prog .add 3 (f.r 15) (vint 1) fun v66 =>
nx2 ((((((((((((((((((((((((((((((((((((((((((((((((((((((((((((((((((((((f.put 109 (f.r 15)).put 110 v1).put 111 v2).put 112 v3).put 116 v4).put 117 (f.r 12)).put 118 (f.r 15)).put 119 v5).put 115 v5).put 120 v7).put 121 v8).put 16 v9).put 17 v8).put 123 v12).put 124 (f.r 11)).put 125 (f.r 15)).put 126 v13).put 122 v13).put 127 v15).put 128 v16).put 18 v17).put 19 v16).put 129 v8).put 130 v20).put 131 v20).put 131 (Value.bool true)).put 132 undef).put 133 undef).put 134 (Value.bool true)).put 135 (Value.bool true)).put 135 (Value.bool true)).put 136 undef).put 137 undef).put 138 undef).put 139 undef).put 140 undef).put 141 undef).put 142 undef).put 143 undef).put 144 (Value.bool true)).put 145 (Value.bool true)).put 145 (Value.bool false)).put 146 v40).put 147 v41).put 148 v42).put 149 v43).put 150 v44).put 151 v45).put 152 v46).put 153 v47).put 154 v47).put 155 v47).put 155 (Value.bool false)).put 156 v55).put 157 v56).put 158 v57).put 159 v58).put 160 v59).put 161 v59).put 162 v59).put 162 (Value.bool false)).put 163 v61).put 164 v62).put 165 v63).put 166 v64).put 167 v65).put 168 v65).put 113 (f.r 15)).put 114 v66).put 15 v66) h19)))))
(aOff v17 0 fun v67 =>
aLoad false 1 v67 h19 fun v68 =>
aOff (f.r 13) 0 fun v69 =>
aLoad false 1 v69 h19 fun v70 =>
aOff v9 0 fun v71 =>
aLoad false 1 v71 h19 fun v72 =>
aBin prog .add 3 v70 v72 fun v73 =>
aBin prog .lss 3 v68 v73 fun v74 =>
cnd v74
(cnd (Value.bool true)
(cnd (Value.bool true)
(cnd (Value.bool true)
(retL n0 K f.ds [(Value.bool false)] h19)
(aBin prog .add 3 (f.r 15) (vint 1) fun v75 =>
nx2 ((((((((((((((((((((((((((((((((((((((((((((((((((((((((((((((((((((((f.put 109 (f.r 15)).put 110 v1).put 111 v2).put 112 v3).put 116 v4).put 117 (f.r 12)).put 118 (f.r 15)).put 119 v5).put 115 v5).put 120 v7).put 121 v8).put 16 v9).put 17 v8).put 123 v12).put 124 (f.r 11)).put 125 (f.r 15)).put 126 v13).put 122 v13).put 127 v15).put 128 v16).put 18 v17).put 19 v16).put 129 v8).put 130 v20).put 131 v20).put 131 (Value.bool true)).put 132 undef).put 133 undef).put 134 (Value.bool true)).put 135 (Value.bool true)).put 135 (Value.bool false)).put 136 v67).put 137 v68).put 138 v69).put 139 v70).put 140 v71).put 141 v72).put 142 v73).put 143 v74).put 144 v74).put 145 v74).put 145 (Value.bool true)).put 146 undef).put 147 undef).put 148 undef).put 149 undef).put 150 undef).put 151 undef).put 152 undef).put 153 undef).put 154 (Value.bool true)).put 155 (Value.bool true)).put 155 (Value.bool true)).put 156 undef).put 157 undef).put 158 undef).put 159 undef).put 160 undef).put 161 (Value.bool true)).put 162 (Value.bool true)).put 162 (Value.bool true)).put 163 undef).put 164 undef).put 165 undef).put 166 undef).put 167 undef).put 168 (Value.bool true)).put 113 (f.r 15)).put 114 v75).put 15 v75) h19))
(aOff v17 1 fun v76 =>
aLoad false 1 v76 h19 fun v77 =>
aOff v9 1 fun v78 =>
aLoad false 1 v78 h19 fun v79 =>
aBin prog .lss 3 v77 v79 fun v80 =>
cnd v80
(retL n0 K f.ds [(Value.bool false)] h19)
(aBin prog .add 3 (f.r 15) (vint 1) fun v81 =>
nx2 ((((((((((((((((((((((((((((((((((((((((((((((((((((((((((((((((((((((f.put 109 (f.r 15)).put 110 v1).put 111 v2).put 112 v3).put 116 v4).put 117 (f.r 12)).put 118 (f.r 15)).put 119 v5).put 115 v5).put 120 v7).put 121 v8).put 16 v9).put 17 v8).put 123 v12).put 124 (f.r 11)).put 125 (f.r 15)).put 126 v13).put 122 v13).put 127 v15).put 128 v16).put 18 v17).put 19 v16).put 129 v8).put 130 v20).put 131 v20).put 131 (Value.bool true)).put 132 undef).put 133 undef).put 134 (Value.bool true)).put 135 (Value.bool true)).put 135 (Value.bool false)).put 136 v67).put 137 v68).put 138 v69).put 139 v70).put 140 v71).put 141 v72).put 142 v73).put 143 v74).put 144 v74).put 145 v74).put 145 (Value.bool true)).put 146 undef).put 147 undef).put 148 undef).put 149 undef).put 150 undef).put 151 undef).put 152 undef).put 153 undef).put 154 (Value.bool true)).put 155 (Value.bool true)).put 155 (Value.bool true)).put 156 undef).put 157 undef).put 158 undef).put 159 undef).put 160 undef).put 161 (Value.bool true)).put 162 (Value.bool true)).put 162 (Value.bool false)).put 163 v76).put 164 v77).put 165 v78).put 166 v79).put 167 v80).put 168 v80).put 113 (f.r 15)).put 114 v81).put 15 v81) h19)))
(aOff v17 1 fun v82 =>
aLoad false 1 v82 h19 fun v83 =>
aOff (f.r 13) 1 fun v84 =>
aLoad false 1 v84 h19 fun v85 =>
aBin prog .lss 3 v83 v85 fun v86 =>
cnd v86
(cnd (Value.bool true)
(retL n0 K f.ds [(Value.bool false)] h19)
(aBin prog .add 3 (f.r 15) (vint 1) fun v87 =>
nx2 ((((((((((((((((((((((((((((((((((((((((((((((((((((((((((((((((((((((f.put 109 (f.r 15)).put 110 v1).put 111 v2).put 112 v3).put 116 v4).put 117 (f.r 12)).put 118 (f.r 15)).put 119 v5).put 115 v5).put 120 v7).put 121 v8).put 16 v9).put 17 v8).put 123 v12).put 124 (f.r 11)).put 125 (f.r 15)).put 126 v13).put 122 v13).put 127 v15).put 128 v16).put 18 v17).put 19 v16).put 129 v8).put 130 v20).put 131 v20).put 131 (Value.bool true)).put 132 undef).put 133 undef).put 134 (Value.bool true)).put 135 (Value.bool true)).put 135 (Value.bool false)).put 136 v67).put 137 v68).put 138 v69).put 139 v70).put 140 v71).put 141 v72).put 142 v73).put 143 v74).put 144 v74).put 145 v74).put 145 (Value.bool true)).put 146 undef).put 147 undef).put 148 undef).put 149 undef).put 150 undef).put 151 undef).put 152 undef).put 153 undef).put 154 (Value.bool true)).put 155 (Value.bool true)).put 155 (Value.bool false)).put 156 v82).put 157 v83).put 158 v84).put 159 v85).put 160 v86).put 161 v86).put 162 v86).put 162 (Value.bool true)).put 163 undef).put 164 undef).put 165 undef).put 166 undef).put 167 undef).put 168 (Value.bool true)).put 113 (f.r 15)).put 114 v87).put 15 v87) h19))
(aOff v17 1 fun v88 =>
aLoad false 1 v88 h19 fun v89 =>
aOff v9 1 fun v90 =>
aLoad false 1 v90 h19 fun v91 =>
aBin prog .lss 3 v89 v91 fun v92 =>
cnd v92
(retL n0 K f.ds [(Value.bool false)] h19)
(aBin prog .add 3 (f.r 15) (vint 1) fun v93 =>
nx2 ((((((((((((((((((((((((((((((((((((((((((((((((((((((((((((((((((((((f.put 109 (f.r 15)).put 110 v1).put 111 v2).put 112 v3).put 116 v4).put 117 (f.r 12)).put 118 (f.r 15)).put 119 v5).put 115 v5).put 120 v7).put 121 v8).put 16 v9).put 17 v8).put 123 v12).put 124 (f.r 11)).put 125 (f.r 15)).put 126 v13).put 122 v13).put 127 v15).put 128 v16).put 18 v17).put 19 v16).put 129 v8).put 130 v20).put 131 v20).put 131 (Value.bool true)).put 132 undef).put 133 undef).put 134 (Value.bool true)).put 135 (Value.bool true)).put 135 (Value.bool false)).put 136 v67).put 137 v68).put 138 v69).put 139 v70).put 140 v71).put 141 v72).put 142 v73).put 143 v74).put 144 v74).put 145 v74).put 145 (Value.bool true)).put 146 undef).put 147 undef).put 148 undef).put 149 undef).put 150 undef).put 151 undef).put 152 undef).put 153 undef).put 154 (Value.bool true)).put 155 (Value.bool true)).put 155 (Value.bool false)).put 156 v82).put 157 v83).put 158 v84).put 159 v85).put 160 v86).put 161 v86).put 162 v86).put 162 (Value.bool false)).put 163 v88).put 164 v89).put 165 v90).put 166 v91).put 167 v92).put 168 v92).put 113 (f.r 15)).put 114 v93).put 15 v93) h19))))
(aOff v17 1 fun v94 =>
aLoad false 1 v94 h19 fun v95 =>
aOff (f.r 13) 1 fun v96 =>
aLoad false 1 v96 h19 fun v97 =>
aOff v9 1 fun v98 =>
aLoad false 1 v98 h19 fun v99 =>
aBin prog .add 3 v97 v99 fun v100 =>
aBin prog .gtr 3 v95 v100 fun v101 =>
cnd v101
(cnd (Value.bool true)
(cnd (Value.bool true)
(retL n0 K f.ds [(Value.bool false)] h19)
(aBin prog .add 3 (f.r 15) (vint 1) fun v102 =>
nx2 ((((((((((((((((((((((((((((((((((((((((((((((((((((((((((((((((((((((f.put 109 (f.r 15)).put 110 v1).put 111 v2).put 112 v3).put 116 v4).put 117 (f.r 12)).put 118 (f.r 15)).put 119 v5).put 115 v5).put 120 v7).put 121 v8).put 16 v9).put 17 v8).put 123 v12).put 124 (f.r 11)).put 125 (f.r 15)).put 126 v13).put 122 v13).put 127 v15).put 128 v16).put 18 v17).put 19 v16).put 129 v8).put 130 v20).put 131 v20).put 131 (Value.bool true)).put 132 undef).put 133 undef).put 134 (Value.bool true)).put 135 (Value.bool true)).put 135 (Value.bool false)).put 136 v67).put 137 v68).put 138 v69).put 139 v70).put 140 v71).put 141 v72).put 142 v73).put 143 v74).put 144 v74).put 145 v74).put 145 (Value.bool false)).put 146 v94).put 147 v95).put 148 v96).put 149 v97).put 150 v98).put 151 v99).put 152 v100).put 153 v101).put 154 v101).put 155 v101).put 155 (Value.bool true)).put 156 undef).put 157 undef).put 158 undef).put 159 undef).put 160 undef).put 161 (Value.bool true)).put 162 (Value.bool true)).put 162 (Value.bool true)).put 163 undef).put 164 undef).put 165 undef).put 166 undef).put 167 undef).put 168 (Value.bool true)).put 113 (f.r 15)).put 114 v102).put 15 v102) h19))
(aOff v17 1 fun v103 =>
aLoad false 1 v103 h19 fun v104 =>
aOff v9 1 fun v105 =>
aLoad false 1 v105 h19 fun v106 =>
aBin prog .lss 3 v104 v106 fun v107 =>
cnd v107
(retL n0 K f.ds [(Value.bool false)] h19)
(aBin prog .add 3 (f.r 15) (vint 1) fun v108 =>
nx2 ((((((((((((((((((((((((((((((((((((((((((((((((((((((((((((((((((((((f.put 109 (f.r 15)).put 110 v1).put 111 v2).put 112 v3).put 116 v4).put 117 (f.r 12)).put 118 (f.r 15)).put 119 v5).put 115 v5).put 120 v7).put 121 v8).put 16 v9).put 17 v8).put 123 v12).put 124 (f.r 11)).put 125 (f.r 15)).put 126 v13).put 122 v13).put 127 v15).put 128 v16).put 18 v17).put 19 v16).put 129 v8).put 130 v20).put 131 v20).put 131 (Value.bool true)).put 132 undef).put 133 undef).put 134 (Value.bool true)).put 135 (Value.bool true)).put 135 (Value.bool false)).put 136 v67).put 137 v68).put 138 v69).put 139 v70).put 140 v71).put 141 v72).put 142 v73).put 143 v74).put 144 v74).put 145 v74).put 145 (Value.bool false)).put 146 v94).put 147 v95).put 148 v96).put 149 v97).put 150 v98).put 151 v99).put 152 v100).put 153 v101).put 154 v101).put 155 v101).put 155 (Value.bool true)).put 156 undef).put 157 undef).put 158 undef).put 159 undef).put 160 undef).put 161 (Value.bool true)).put 162 (Value.bool true)).put 162 (Value.bool false)).put 163 v103).put 164 v104).put 165 v105).put 166 v106).put 167 v107).put 168 v107).put 113 (f.r 15)).put 114 v108).put 15 v108) h19)))
(aOff v17 1 fun v109 =>
aLoad false 1 v109 h19 fun v110 =>
aOff (f.r 13) 1 fun v111 =>
aLoad false 1 v111 h19 fun v112 =>
aBin prog .lss 3 v110 v112 fun v113 =>
cnd v113
(cnd (Value.bool true)
(retL n0 K f.ds [(Value.bool false)] h19)
(aBin prog .add 3 (f.r 15) (vint 1) fun v114 =>
nx2 ((((((((((((((((((((((((((((((((((((((((((((((((((((((((((((((((((((((f.put 109 (f.r 15)).put 110 v1).put 111 v2).put 112 v3).put 116 v4).put 117 (f.r 12)).put 118 (f.r 15)).put 119 v5).put 115 v5).put 120 v7).put 121 v8).put 16 v9).put 17 v8).put 123 v12).put 124 (f.r 11)).put 125 (f.r 15)).put 126 v13).put 122 v13).put 127 v15).put 128 v16).put 18 v17).put 19 v16).put 129 v8).put 130 v20).put 131 v20).put 131 (Value.bool true)).put 132 undef).put 133 undef).put 134 (Value.bool true)).put 135 (Value.bool true)).put 135 (Value.bool false)).put 136 v67).put 137 v68).put 138 v69).put 139 v70).put 140 v71).put 141 v72).put 142 v73).put 143 v74).put 144 v74).put 145 v74).put 145 (Value.bool false)).put 146 v94).put 147 v95).put 148 v96).put 149 v97).put 150 v98).put 151 v99).put 152 v100).put 153 v101).put 154 v101).put 155 v101).put 155 (Value.bool false)).put 156 v109).put 157 v110).put 158 v111).put 159 v112).put 160 v113).put 161 v113).put 162 v113).put 162 (Value.bool true)).put 163 undef).put 164 undef).put 165 undef).put 166 undef).put 167 undef).put 168 (Value.bool true)).put 113 (f.r 15)).put 114 v114).put 15 v114) h19))
(aOff v17 1 fun v115 =>
aLoad false 1 v115 h19 fun v116 =>
aOff v9 1 fun v117 =>
aLoad false 1 v117 h19 fun v118 =>
aBin prog .lss 3 v116 v118 fun v119 =>
cnd v119
(retL n0 K f.ds [(Value.bool false)] h19)
(aBin prog .add 3 (f.r 15) (vint 1) fun v120 =>
nx2 ((((((((((((((((((((((((((((((((((((((((((((((((((((((((((((((((((((((f.put 109 (f.r 15)).put 110 v1).put 111 v2).put 112 v3).put 116 v4).put 117 (f.r 12)).put 118 (f.r 15)).put 119 v5).put 115 v5).put 120 v7).put 121 v8).put 16 v9).put 17 v8).put 123 v12).put 124 (f.r 11)).put 125 (f.r 15)).put 126 v13).put 122 v13).put 127 v15).put 128 v16).put 18 v17).put 19 v16).put 129 v8).put 130 v20).put 131 v20).put 131 (Value.bool true)).put 132 undef).put 133 undef).put 134 (Value.bool true)).put 135 (Value.bool true)).put 135 (Value.bool false)).put 136 v67).put 137 v68).put 138 v69).put 139 v70).put 140 v71).put 141 v72).put 142 v73).put 143 v74).put 144 v74).put 145 v74).put 145 (Value.bool false)).put 146 v94).put 147 v95).put 148 v96).put 149 v97).put 150 v98).put 151 v99).put 152 v100).put 153 v101).put 154 v101).put 155 v101).put 155 (Value.bool false)).put 156 v109).put 157 v110).put 158 v111).put 159 v112).put 160 v113).put 161 v113).put 162 v113).put 162 (Value.bool false)).put 163 v115).put 164 v116).put 165 v117).put 166 v118).put 167 v119).put 168 v119).put 113 (f.r 15)).put 114 v120).put 15 v120) h19))))))
(aBin prog .neq 32 v16 (vint 0) fun v121 =>
cnd v121
(cnd (Value.bool true)
(cnd (Value.bool true)
(cnd (Value.bool true)
(cnd (Value.bool true)
(retL n0 K f.ds [(Value.bool false)] h19)
(aBin prog .add 3 (f.r 15) (vint 1) fun v122 =>
nx2 ((((((((((((((((((((((((((((((((((((((((((((((((((((((((((((((((((((((f.put 109 (f.r 15)).put 110 v1).put 111 v2).put 112 v3).put 116 v4).put 117 (f.r 12)).put 118 (f.r 15)).put 119 v5).put 115 v5).put 120 v7).put 121 v8).put 16 v9).put 17 v8).put 123 v12).put 124 (f.r 11)).put 125 (f.r 15)).put 126 v13).put 122 v13).put 127 v15).put 128 v16).put 18 v17).put 19 v16).put 129 v8).put 130 v20).put 131 v20).put 131 (Value.bool false)).put 132 v16).put 133 v121).put 134 v121).put 135 v121).put 135 (Value.bool true)).put 136 undef).put 137 undef).put 138 undef).put 139 undef).put 140 undef).put 141 undef).put 142 undef).put 143 undef).put 144 (Value.bool true)).put 145 (Value.bool true)).put 145 (Value.bool true)).put 146 undef).put 147 undef).put 148 undef).put 149 undef).put 150 undef).put 151 undef).put 152 undef).put 153 undef).put 154 (Value.bool true)).put 155 (Value.bool true)).put 155 (Value.bool true)).put 156 undef).put 157 undef).put 158 undef).put 159 undef).put 160 undef).put 161 (Value.bool true)).put 162 (Value.bool true)).put 162 (Value.bool true)).put 163 undef).put 164 undef).put 165 undef).put 166 undef).put 167 undef).put 168 (Value.bool true)).put 113 (f.r 15)).put 114 v122).put 15 v122) h19))
(aOff v17 1 fun v123 =>
aLoad false 1 v123 h19 fun v124 =>
aOff v9 1 fun v125 =>
aLoad false 1 v125 h19 fun v126 =>
aBin prog .lss 3 v124 v126 fun v127 =>
cnd v127
(retL n0 K f.ds [(Value.bool false)] h19)
(aBin prog .add 3 (f.r 15) (vint 1) fun v128 =>
nx2 ((((((((((((((((((((((((((((((((((((((((((((((((((((((((((((((((((((((f.put 109 (f.r 15)).put 110 v1).put 111 v2).put 112 v3).put 116 v4).put 117 (f.r 12)).put 118 (f.r 15)).put 119 v5).put 115 v5).put 120 v7).put 121 v8).put 16 v9).put 17 v8).put 123 v12).put 124 (f.r 11)).put 125 (f.r 15)).put 126 v13).put 122 v13).put 127 v15).put 128 v16).put 18 v17).put 19 v16).put 129 v8).put 130 v20).put 131 v20).put 131 (Value.bool false)).put 132 v16).put 133 v121).put 134 v121).put 135 v121).put 135 (Value.bool true)).put 136 undef).put 137 undef).put 138 undef).put 139 undef).put 140 undef).put 141 undef).put 142 undef).put 143 undef).put 144 (Value.bool true)).put 145 (Value.bool true)).put 145 (Value.bool true)).put 146 undef).put 147 undef).put 148 undef).put 149 undef).put 150 undef).put 151 undef).put 152 undef).put 153 undef).put 154 (Value.bool true)).put 155 (Value.bool true)).put 155 (Value.bool true)).put 156 undef).put 157 undef).put 158 undef).put 159 undef).put 160 undef).put 161 (Value.bool true)).put 162 (Value.bool true)).put 162 (Value.bool false)).put 163 v123).put 164 v124).put 165 v125).put 166 v126).put 167 v127).put 168 v127).put 113 (f.r 15)).put 114 v128).put 15 v128) h19)))
(aOff v17 1 fun v129 =>
aLoad false 1 v129 h19 fun v130 =>
aOff (f.r 13) 1 fun v131 =>
aLoad false 1 v131 h19 fun v132 =>
aBin prog .lss 3 v130 v132 fun v133 =>
cnd v133
(cnd (Value.bool true)
(retL n0 K f.ds [(Value.bool false)] h19)
(aBin prog .add 3 (f.r 15) (vint 1) fun v134 =>
nx2 ((((((((((((((((((((((((((((((((((((((((((((((((((((((((((((((((((((((f.put 109 (f.r 15)).put 110 v1).put 111 v2).put 112 v3).put 116 v4).put 117 (f.r 12)).put 118 (f.r 15)).put 119 v5).put 115 v5).put 120 v7).put 121 v8).put 16 v9).put 17 v8).put 123 v12).put 124 (f.r 11)).put 125 (f.r 15)).put 126 v13).put 122 v13).put 127 v15).put 128 v16).put 18 v17).put 19 v16).put 129 v8).put 130 v20).put 131 v20).put 131 (Value.bool false)).put 132 v16).put 133 v121).put 134 v121).put 135 v121).put 135 (Value.bool true)).put 136 undef).put 137 undef).put 138 undef).put 139 undef).put 140 undef).put 141 undef).put 142 undef).put 143 undef).put 144 (Value.bool true)).put 145 (Value.bool true)).put 145 (Value.bool true)).put 146 undef).put 147 undef).put 148 undef).put 149 undef).put 150 undef).put 151 undef).put 152 undef).put 153 undef).put 154 (Value.bool true)).put 155 (Value.bool true)).put 155 (Value.bool false)).put 156 v129).put 157 v130).put 158 v131).put 159 v132).put 160 v133).put 161 v133).put 162 v133).put 162 (Value.bool true)).put 163 undef).put 164 undef).put 165 undef).put 166 undef).put 167 undef).put 168 (Value.bool true)).put 113 (f.r 15)).put 114 v134).put 15 v134) h19))
(aOff v17 1 fun v135 =>
aLoad false 1 v135 h19 fun v136 =>
aOff v9 1 fun v137 =>
aLoad false 1 v137 h19 fun v138 =>
aBin prog .lss 3 v136 v138 fun v139 =>
cnd v139
(retL n0 K f.ds [(Value.bool false)] h19)
(aBin prog .add 3 (f.r 15) (vint 1) fun v140 =>
nx2 ((((((((((((((((((((((((((((((((((((((((((((((((((((((((((((((((((((((f.put 109 (f.r 15)).put 110 v1).put 111 v2).put 112 v3).put 116 v4).put 117 (f.r 12)).put 118 (f.r 15)).put 119 v5).put 115 v5).put 120 v7).put 121 v8).put 16 v9).put 17 v8).put 123 v12).put 124 (f.r 11)).put 125 (f.r 15)).put 126 v13).put 122 v13).put 127 v15).put 128 v16).put 18 v17).put 19 v16).put 129 v8).put 130 v20).put 131 v20).put 131 (Value.bool false)).put 132 v16).put 133 v121).put 134 v121).put 135 v121).put 135 (Value.bool true)).put 136 undef).put 137 undef).put 138 undef).put 139 undef).put 140 undef).put 141 undef).put 142 undef).put 143 undef).put 144 (Value.bool true)).put 145 (Value.bool true)).put 145 (Value.bool true)).put 146 undef).put 147 undef).put 148 undef).put 149 undef).put 150 undef).put 151 undef).put 152 undef).put 153 undef).put 154 (Value.bool true)).put 155 (Value.bool true)).put 155 (Value.bool false)).put 156 v129).put 157 v130).put 158 v131).put 159 v132).put 160 v133).put 161 v133).put 162 v133).put 162 (Value.bool false)).put 163 v135).put 164 v136).put 165 v137).put 166 v138).put 167 v139).put 168 v139).put 113 (f.r 15)).put 114 v140).put 15 v140) h19))))
(aOff v17 1 fun v141 =>
aLoad false 1 v141 h19 fun v142 =>
aOff (f.r 13) 1 fun v143 =>
aLoad false 1 v143 h19 fun v144 =>
aOff v9 1 fun v145 =>
aLoad false 1 v145 h19 fun v146 =>
aBin prog .add 3 v144 v146 fun v147 =>
aBin prog .gtr 3 v142 v147 fun v148 =>
cnd v148
(cnd (Value.bool true)
(cnd (Value.bool true)
(retL n0 K f.ds [(Value.bool false)] h19)
(aBin prog .add 3 (f.r 15) (vint 1) fun v149 =>
nx2 ((((((((((((((((((((((((((((((((((((((((((((((((((((((((((((((((((((((f.put 109 (f.r 15)).put 110 v1).put 111 v2).put 112 v3).put 116 v4).put 117 (f.r 12)).put 118 (f.r 15)).put 119 v5).put 115 v5).put 120 v7).put 121 v8).put 16 v9).put 17 v8).put 123 v12).put 124 (f.r 11)).put 125 (f.r 15)).put 126 v13).put 122 v13).put 127 v15).put 128 v16).put 18 v17).put 19 v16).put 129 v8).put 130 v20).put 131 v20).put 131 (Value.bool false)).put 132 v16).put 133 v121).put 134 v121).put 135 v121).put 135 (Value.bool true)).put 136 undef).put 137 undef).put 138 undef).put 139 undef).put 140 undef).put 141 undef).put 142 undef).put 143 undef).put 144 (Value.bool true)).put 145 (Value.bool true)).put 145 (Value.bool false)).put 146 v141).put 147 v142).put 148 v143).put 149 v144).put 150 v145).put 151 v146).put 152 v147).put 153 v148).put 154 v148).put 155 v148).put 155 (Value.bool true)).put 156 undef).put 157 undef).put 158 undef).put 159 undef).put 160 undef).put 161 (Value.bool true)).put 162 (Value.bool true)).put 162 (Value.bool true)).put 163 undef).put 164 undef).put 165 undef).put 166 undef).put 167 undef).put 168 (Value.bool true)).put 113 (f.r 15)).put 114 v149).put 15 v149) h19))
(aOff v17 1 fun v150 =>
aLoad false 1 v150 h19 fun v151 =>
aOff v9 1 fun v152 =>
aLoad false 1 v152 h19 fun v153 =>
aBin prog .lss 3 v151 v153 fun v154 =>
cnd v154
(retL n0 K f.ds [(Value.bool false)] h19)
(aBin prog .add 3 (f.r 15) (vint 1) fun v155 =>
nx2 ((((((((((((((((((((((((((((((((((((((((((((((((((((((((((((((((((((((f.put 109 (f.r 15)).put 110 v1).put 111 v2).put 112 v3).put 116 v4).put 117 (f.r 12)).put 118 (f.r 15)).put 119 v5).put 115 v5).put 120 v7).put 121 v8).put 16 v9).put 17 v8).put 123 v12).put 124 (f.r 11)).put 125 (f.r 15)).put 126 v13).put 122 v13).put 127 v15).put 128 v16).put 18 v17).put 19 v16).put 129 v8).put 130 v20).put 131 v20).put 131 (Value.bool false)).put 132 v16).put 133 v121).put 134 v121).put 135 v121).put 135 (Value.bool true)).put 136 undef).put 137 undef).put 138 undef).put 139 undef).put 140 undef).put 141 undef).put 142 undef).put 143 undef).put 144 (Value.bool true)).put 145 (Value.bool true)).put 145 (Value.bool false)).put 146 v141).put 147 v142).put 148 v143).put 149 v144).put 150 v145).put 151 v146).put 152 v147).put 153 v148).put 154 v148).put 155 v148).put 155 (Value.bool true)).put 156 undef).put 157 undef).put 158 undef).put 159 undef).put 160 undef).put 161 (Value.bool true)).put 162 (Value.bool true)).put 162 (Value.bool false)).put 163 v150).put 164 v151).put 165 v152).put 166 v153).put 167 v154).put 168 v154).put 113 (f.r 15)).put 114 v155).put 15 v155) h19)))
(aOff v17 1 fun v156 =>
aLoad false 1 v156 h19 fun v157 =>
aOff (f.r 13) 1 fun v158 =>
aLoad false 1 v158 h19 fun v159 =>
aBin prog .lss 3 v157 v159 fun v160 =>
cnd v160
(cnd (Value.bool true)
(retL n0 K f.ds [(Value.bool false)] h19)
(aBin prog .add 3 (f.r 15) (vint 1) fun v161 =>
nx2 ((((((((((((((((((((((((((((((((((((((((((((((((((((((((((((((((((((((f.put 109 (f.r 15)).put 110 v1).put 111 v2).put 112 v3).put 116 v4).put 117 (f.r 12)).put 118 (f.r 15)).put 119 v5).put 115 v5).put 120 v7).put 121 v8).put 16 v9).put 17 v8).put 123 v12).put 124 (f.r 11)).put 125 (f.r 15)).put 126 v13).put 122 v13).put 127 v15).put 128 v16).put 18 v17).put 19 v16).put 129 v8).put 130 v20).put 131 v20).put 131 (Value.bool false)).put 132 v16).put 133 v121).put 134 v121).put 135 v121).put 135 (Value.bool true)).put 136 undef).put 137 undef).put 138 undef).put 139 undef).put 140 undef).put 141 undef).put 142 undef).put 143 undef).put 144 (Value.bool true)).put 145 (Value.bool true)).put 145 (Value.bool false)).put 146 v141).put 147 v142).put 148 v143).put 149 v144).put 150 v145).put 151 v146).put 152 v147).put 153 v148).put 154 v148).put 155 v148).put 155 (Value.bool false)).put 156 v156).put 157 v157).put 158 v158).put 159 v159).put 160 v160).put 161 v160).put 162 v160).put 162 (Value.bool true)).put 163 undef).put 164 undef).put 165 undef).put 166 undef).put 167 undef).put 168 (Value.bool true)).put 113 (f.r 15)).put 114 v161).put 15 v161) h19))
(aOff v17 1 fun v162 =>
aLoad false 1 v162 h19 fun v163 =>
aOff v9 1 fun v164 =>
aLoad false 1 v164 h19 fun v165 =>
aBin prog .lss 3 v163 v165 fun v166 =>
cnd v166
(retL n0 K f.ds [(Value.bool false)] h19)
(aBin prog .add 3 (f.r 15) (vint 1) fun v167 =>
nx2 ((((((((((((((((((((((((((((((((((((((((((((((((((((((((((((((((((((((f.put 109 (f.r 15)).put 110 v1).put 111 v2).put 112 v3).put 116 v4).put 117 (f.r 12)).put 118 (f.r 15)).put 119 v5).put 115 v5).put 120 v7).put 121 v8).put 16 v9).put 17 v8).put 123 v12).put 124 (f.r 11)).put 125 (f.r 15)).put 126 v13).put 122 v13).put 127 v15).put 128 v16).put 18 v17).put 19 v16).put 129 v8).put 130 v20).put 131 v20).put 131 (Value.bool false)).put 132 v16).put 133 v121).put 134 v121).put 135 v121).put 135 (Value.bool true)).put 136 undef).put 137 undef).put 138 undef).put 139 undef).put 140 undef).put 141 undef).put 142 undef).put 143 undef).put 144 (Value.bool true)).put 145 (Value.bool true)).put 145 (Value.bool false)).put 146 v141).put 147 v142).put 148 v143).put 149 v144).put 150 v145).put 151 v146).put 152 v147).put 153 v148).put 154 v148).put 155 v148).put 155 (Value.bool false)).put 156 v156).put 157 v157).put 158 v158).put 159 v159).put 160 v160).put 161 v160).put 162 v160).put 162 (Value.bool false)).put 163 v162).put 164 v163).put 165 v164).put 166 v165).put 167 v166).put 168 v166).put 113 (f.r 15)).put 114 v167).put 15 v167) h19)))))
(aOff v17 0 fun v168 =>
aLoad false 1 v168 h19 fun v169 =>
aOff (f.r 13) 0 fun v170 =>
aLoad false 1 v170 h19 fun v171 =>
aOff v9 0 fun v172 =>
aLoad false 1 v172 h19 fun v173 =>
aBin prog .add 3 v171 v173 fun v174 =>
aBin prog .lss 3 v169 v174 fun v175 =>
cnd v175
(cnd (Value.bool true)
(cnd (Value.bool true)
(cnd (Value.bool true)
(retL n0 K f.ds [(Value.bool false)] h19)
(aBin prog .add 3 (f.r 15) (vint 1) fun v176 =>
nx2 ((((((((((((((((((((((((((((((((((((((((((((((((((((((((((((((((((((((f.put 109 (f.r 15)).put 110 v1).put 111 v2).put 112 v3).put 116 v4).put 117 (f.r 12)).put 118 (f.r 15)).put 119 v5).put 115 v5).put 120 v7).put 121 v8).put 16 v9).put 17 v8).put 123 v12).put 124 (f.r 11)).put 125 (f.r 15)).put 126 v13).put 122 v13).put 127 v15).put 128 v16).put 18 v17).put 19 v16).put 129 v8).put 130 v20).put 131 v20).put 131 (Value.bool false)).put 132 v16).put 133 v121).put 134 v121).put 135 v121).put 135 (Value.bool false)).put 136 v168).put 137 v169).put 138 v170).put 139 v171).put 140 v172).put 141 v173).put 142 v174).put 143 v175).put 144 v175).put 145 v175).put 145 (Value.bool true)).put 146 undef).put 147 undef).put 148 undef).put 149 undef).put 150 undef).put 151 undef).put 152 undef).put 153 undef).put 154 (Value.bool true)).put 155 (Value.bool true)).put 155 (Value.bool true)).put 156 undef).put 157 undef).put 158 undef).put 159 undef).put 160 undef).put 161 (Value.bool true)).put 162 (Value.bool true)).put 162 (Value.bool true)).put 163 undef).put 164 undef).put 165 undef).put 166 undef).put 167 undef).put 168 (Value.bool true)).put 113 (f.r 15)).put 114 v176).put 15 v176) h19))
(aOff v17 1 fun v177 =>
aLoad false 1 v177 h19 fun v178 =>
aOff v9 1 fun v179 =>
aLoad false 1 v179 h19 fun v180 =>
aBin prog .lss 3 v178 v180 fun v181 =>
cnd v181
(retL n0 K f.ds [(Value.bool false)] h19)
(aBin prog .add 3 (f.r 15) (vint 1) fun v182 =>
nx2 ((((((((((((((((((((((((((((((((((((((((((((((((((((((((((((((((((((((f.put 109 (f.r 15)).put 110 v1).put 111 v2).put 112 v3).put 116 v4).put 117 (f.r 12)).put 118 (f.r 15)).put 119 v5).put 115 v5).put 120 v7).put 121 v8).put 16 v9).put 17 v8).put 123 v12).put 124 (f.r 11)).put 125 (f.r 15)).put 126 v13).put 122 v13).put 127 v15).put 128 v16).put 18 v17).put 19 v16).put 129 v8).put 130 v20).put 131 v20).put 131 (Value.bool false)).put 132 v16).put 133 v121).put 134 v121).put 135 v121).put 135 (Value.bool false)).put 136 v168).put 137 v169).put 138 v170).put 139 v171).put 140 v172).put 141 v173).put 142 v174).put 143 v175).put 144 v175).put 145 v175).put 145 (Value.bool true)).put 146 undef).put 147 undef).put 148 undef).put 149 undef).put 150 undef).put 151 undef).put 152 undef).put 153 undef).put 154 (Value.bool true)).put 155 (Value.bool true)).put 155 (Value.bool true)).put 156 undef).put 157 undef).put 158 undef).put 159 undef).put 160 undef).put 161 (Value.bool true)).put 162 (Value.bool true)).put 162 (Value.bool false)).put 163 v177).put 164 v178).put 165 v179).put 166 v180).put 167 v181).put 168 v181).put 113 (f.r 15)).put 114 v182).put 15 v182) h19)))
(aOff v17 1 fun v183 =>
aLoad false 1 v183 h19 fun v184 =>
aOff (f.r 13) 1 fun v185 =>
aLoad false 1 v185 h19 fun v186 =>
aBin prog .lss 3 v184 v186 fun v187 =>
cnd v187
(cnd (Value.bool true)
(retL n0 K f.ds [(Value.bool false)] h19)
(aBin prog .add 3 (f.r 15) (vint 1) fun v188 =>
nx2 ((((((((((((((((((((((((((((((((((((((((((((((((((((((((((((((((((((((f.put 109 (f.r 15)).put 110 v1).put 111 v2).put 112 v3).put 116 v4).put 117 (f.r 12)).put 118 (f.r 15)).put 119 v5).put 115 v5).put 120 v7).put 121 v8).put 16 v9).put 17 v8).put 123 v12).put 124 (f.r 11)).put 125 (f.r 15)).put 126 v13).put 122 v13).put 127 v15).put 128 v16).put 18 v17).put 19 v16).put 129 v8).put 130 v20).put 131 v20).put 131 (Value.bool false)).put 132 v16).put 133 v121).put 134 v121).put 135 v121).put 135 (Value.bool false)).put 136 v168).put 137 v169).put 138 v170).put 139 v171).put 140 v172).put 141 v173).put 142 v174).put 143 v175).put 144 v175).put 145 v175).put 145 (Value.bool true)).put 146 undef).put 147 undef).put 148 undef).put 149 undef).put 150 undef).put 151 undef).put 152 undef).put 153 undef).put 154 (Value.bool true)).put 155 (Value.bool true)).put 155 (Value.bool false)).put 156 v183).put 157 v184).put 158 v185).put 159 v186).put 160 v187).put 161 v187).put 162 v187).put 162 (Value.bool true)).put 163 undef).put 164 undef).put 165 undef).put 166 undef).put 167 undef).put 168 (Value.bool true)).put 113 (f.r 15)).put 114 v188).put 15 v188) h19))
(aOff v17 1 fun v189 =>
aLoad false 1 v189 h19 fun v190 =>
aOff v9 1 fun v191 =>
aLoad false 1 v191 h19 fun v192 =>
aBin prog .lss 3 v190 v192 fun v193 =>
cnd v193
(retL n0 K f.ds [(Value.bool false)] h19)
(aBin prog .add 3 (f.r 15) (vint 1) fun v194 =>
nx2 ((((((((((((((((((((((((((((((((((((((((((((((((((((((((((((((((((((((f.put 109 (f.r 15)).put 110 v1).put 111 v2).put 112 v3).put 116 v4).put 117 (f.r 12)).put 118 (f.r 15)).put 119 v5).put 115 v5).put 120 v7).put 121 v8).put 16 v9).put 17 v8).put 123 v12).put 124 (f.r 11)).put 125 (f.r 15)).put 126 v13).put 122 v13).put 127 v15).put 128 v16).put 18 v17).put 19 v16).put 129 v8).put 130 v20).put 131 v20).put 131 (Value.bool false)).put 132 v16).put 133 v121).put 134 v121).put 135 v121).put 135 (Value.bool false)).put 136 v168).put 137 v169).put 138 v170).put 139 v171).put 140 v172).put 141 v173).put 142 v174).put 143 v175).put 144 v175).put 145 v175).put 145 (Value.bool true)).put 146 undef).put 147 undef).put 148 undef).put 149 undef).put 150 undef).put 151 undef).put 152 undef).put 153 undef).put 154 (Value.bool true)).put 155 (Value.bool true)).put 155 (Value.bool false)).put 156 v183).put 157 v184).put 158 v185).put 159 v186).put 160 v187).put 161 v187).put 162 v187).put 162 (Value.bool false)).put 163 v189).put 164 v190).put 165 v191).put 166 v192).put 167 v193).put 168 v193).put 113 (f.r 15)).put 114 v194).put 15 v194) h19))))
(aOff v17 1 fun v195 =>
aLoad false 1 v195 h19 fun v196 =>
aOff (f.r 13) 1 fun v197 =>
aLoad false 1 v197 h19 fun v198 =>
aOff v9 1 fun v199 =>
aLoad false 1 v199 h19 fun v200 =>
aBin prog .add 3 v198 v200 fun v201 =>
aBin prog .gtr 3 v196 v201 fun v202 =>
cnd v202
(cnd (Value.bool true)
(cnd (Value.bool true)
(retL n0 K f.ds [(Value.bool false)] h19)
(aBin prog .add 3 (f.r 15) (vint 1) fun v203 =>
nx2 ((((((((((((((((((((((((((((((((((((((((((((((((((((((((((((((((((((((f.put 109 (f.r 15)).put 110 v1).put 111 v2).put 112 v3).put 116 v4).put 117 (f.r 12)).put 118 (f.r 15)).put 119 v5).put 115 v5).put 120 v7).put 121 v8).put 16 v9).put 17 v8).put 123 v12).put 124 (f.r 11)).put 125 (f.r 15)).put 126 v13).put 122 v13).put 127 v15).put 128 v16).put 18 v17).put 19 v16).put 129 v8).put 130 v20).put 131 v20).put 131 (Value.bool false)).put 132 v16).put 133 v121).put 134 v121).put 135 v121).put 135 (Value.bool false)).put 136 v168).put 137 v169).put 138 v170).put 139 v171).put 140 v172).put 141 v173).put 142 v174).put 143 v175).put 144 v175).put 145 v175).put 145 (Value.bool false)).put 146 v195).put 147 v196).put 148 v197).put 149 v198).put 150 v199).put 151 v200).put 152 v201).put 153 v202).put 154 v202).put 155 v202).put 155 (Value.bool true)).put 156 undef).put 157 undef).put 158 undef).put 159 undef).put 160 undef).put 161 (Value.bool true)).put 162 (Value.bool true)).put 162 (Value.bool true)).put 163 undef).put 164 undef).put 165 undef).put 166 undef).put 167 undef).put 168 (Value.bool true)).put 113 (f.r 15)).put 114 v203).put 15 v203) h19))
(aOff v17 1 fun v204 =>
aLoad false 1 v204 h19 fun v205 =>
aOff v9 1 fun v206 =>
aLoad false 1 v206 h19 fun v207 =>
aBin prog .lss 3 v205 v207 fun v208 =>
cnd v208
(retL n0 K f.ds [(Value.bool false)] h19)
(aBin prog .add 3 (f.r 15) (vint 1) fun v209 =>
nx2 ((((((((((((((((((((((((((((((((((((((((((((((((((((((((((((((((((((((f.put 109 (f.r 15)).put 110 v1).put 111 v2).put 112 v3).put 116 v4).put 117 (f.r 12)).put 118 (f.r 15)).put 119 v5).put 115 v5).put 120 v7).put 121 v8).put 16 v9).put 17 v8).put 123 v12).put 124 (f.r 11)).put 125 (f.r 15)).put 126 v13).put 122 v13).put 127 v15).put 128 v16).put 18 v17).put 19 v16).put 129 v8).put 130 v20).put 131 v20).put 131 (Value.bool false)).put 132 v16).put 133 v121).put 134 v121).put 135 v121).put 135 (Value.bool false)).put 136 v168).put 137 v169).put 138 v170).put 139 v171).put 140 v172).put 141 v173).put 142 v174).put 143 v175).put 144 v175).put 145 v175).put 145 (Value.bool false)).put 146 v195).put 147 v196).put 148 v197).put 149 v198).put 150 v199).put 151 v200).put 152 v201).put 153 v202).put 154 v202).put 155 v202).put 155 (Value.bool true)).put 156 undef).put 157 undef).put 158 undef).put 159 undef).put 160 undef).put 161 (Value.bool true)).put 162 (Value.bool true)).put 162 (Value.bool false)).put 163 v204).put 164 v205).put 165 v206).put 166 v207).put 167 v208).put 168 v208).put 113 (f.r 15)).put 114 v209).put 15 v209) h19)))
(aOff v17 1 fun v210 =>
aLoad false 1 v210 h19 fun v211 =>
aOff (f.r 13) 1 fun v212 =>
aLoad false 1 v212 h19 fun v213 =>
aBin prog .lss 3 v211 v213 fun v214 =>
cnd v214
(cnd (Value.bool true)
(retL n0 K f.ds [(Value.bool false)] h19)
(aBin prog .add 3 (f.r 15) (vint 1) fun v215 =>
nx2 ((((((((((((((((((((((((((((((((((((((((((((((((((((((((((((((((((((((f.put 109 (f.r 15)).put 110 v1).put 111 v2).put 112 v3).put 116 v4).put 117 (f.r 12)).put 118 (f.r 15)).put 119 v5).put 115 v5).put 120 v7).put 121 v8).put 16 v9).put 17 v8).put 123 v12).put 124 (f.r 11)).put 125 (f.r 15)).put 126 v13).put 122 v13).put 127 v15).put 128 v16).put 18 v17).put 19 v16).put 129 v8).put 130 v20).put 131 v20).put 131 (Value.bool false)).put 132 v16).put 133 v121).put 134 v121).put 135 v121).put 135 (Value.bool false)).put 136 v168).put 137 v169).put 138 v170).put 139 v171).put 140 v172).put 141 v173).put 142 v174).put 143 v175).put 144 v175).put 145 v175).put 145 (Value.bool false)).put 146 v195).put 147 v196).put 148 v197).put 149 v198).put 150 v199).put 151 v200).put 152 v201).put 153 v202).put 154 v202).put 155 v202).put 155 (Value.bool false)).put 156 v210).put 157 v211).put 158 v212).put 159 v213).put 160 v214).put 161 v214).put 162 v214).put 162 (Value.bool true)).put 163 undef).put 164 undef).put 165 undef).put 166 undef).put 167 undef).put 168 (Value.bool true)).put 113 (f.r 15)).put 114 v215).put 15 v215) h19))
(aOff v17 1 fun v216 =>
aLoad false 1 v216 h19 fun v217 =>
aOff v9 1 fun v218 =>
aLoad false 1 v218 h19 fun v219 =>
aBin prog .lss 3 v217 v219 fun v220 =>
cnd v220
(retL n0 K f.ds [(Value.bool false)] h19)
(aBin prog .add 3 (f.r 15) (vint 1) fun v221 =>
nx2 ((((((((((((((((((((((((((((((((((((((((((((((((((((((((((((((((((((((f.put 109 (f.r 15)).put 110 v1).put 111 v2).put 112 v3).put 116 v4).put 117 (f.r 12)).put 118 (f.r 15)).put 119 v5).put 115 v5).put 120 v7).put 121 v8).put 16 v9).put 17 v8).put 123 v12).put 124 (f.r 11)).put 125 (f.r 15)).put 126 v13).put 122 v13).put 127 v15).put 128 v16).put 18 v17).put 19 v16).put 129 v8).put 130 v20).put 131 v20).put 131 (Value.bool false)).put 132 v16).put 133 v121).put 134 v121).put 135 v121).put 135 (Value.bool false)).put 136 v168).put 137 v169).put 138 v170).put 139 v171).put 140 v172).put 141 v173).put 142 v174).put 143 v175).put 144 v175).put 145 v175).put 145 (Value.bool false)).put 146 v195).put 147 v196).put 148 v197).put 149 v198).put 150 v199).put 151 v200).put 152 v201).put 153 v202).put 154 v202).put 155 v202).put 155 (Value.bool false)).put 156 v210).put 157 v211).put 158 v212).put 159 v213).put 160 v214).put 161 v214).put 162 v214).put 162 (Value.bool false)).put 163 v216).put 164 v217).put 165 v218).put 166 v219).put 167 v220).put 168 v220).put 113 (f.r 15)).put 114 v221).put 15 v221) h19)))))))
(aBin prog .add 3 (f.r 12) (vint 1) fun v222 =>
nx1 (((((((f.put 109 (f.r 15)).put 110 v1).put 111 v2).put 112 v3).put 60 (f.r 12)).put 61 v222).put 12 v222) h)) := by kernel_rfl
theorem l9_3 (hJ : Closed prog main J) {nx0 nx1 : RG → List AObj → Prop} {S : Type} (μ : S → Nat) (I : S → RG → List AObj → Prop) (hI : ∀ s f h, I s f h → heapOk h → n0 ≤ h.length → W prog J 192 n0 9 (subC [1, 1, 1, 1, 1, 1, 1, 0, 1, 0, 0, 1, 0, 0, 1, 0, 0, 1, 0, 0, 1, 1, 1, 1, 0, 0] (codeOf f9)) f h (thenK (Nx n0 μ I s) (contQ prog J 192 n0 9 [1, 1, 1, 1, 1, 1, 1, 0, 1, 0, 0, 1, 0, 0, 1, 0, 0, 1, 0, 0, 1, 1, 1, 1, 0] (codeOf f9) [nx0, nx1] (RetQ prog [.tmp 2] n0 K))))
  {s : S} {f : RG} (hi : Gets n0 I s f h) : Sem J 192 n0 9 (subC [1, 1, 1, 1, 1, 1, 1, 0, 1, 0, 0, 1, 0, 0, 1, 0, 0, 1, 0, 0, 1, 1, 1, 1, 0] (codeOf f9)) f h (contQ prog J 192 n0 9 [1, 1, 1, 1, 1, 1, 1, 0, 1, 0, 0, 1, 0, 0, 1, 0, 0, 1, 0, 0, 1, 1, 1, 1, 0] (codeOf f9) [nx0, nx1] (RetQ prog [.tmp 2] n0 K)) :=
  loop_rule hJ mixed (b := subC [1, 1, 1, 1, 1, 1, 1, 0, 1, 0, 0, 1, 0, 0, 1, 0, 0, 1, 0, 0, 1, 1, 1, 1, 0, 0] (codeOf f9)) (by kernel_rfl) μ I hI hi
end
end Go.Proofs.Ytdgpacdknpahnaa

/- Printed by program: the forms to which the bodies of some functions come down. No conditions. -/
namespace Go.Proofs.Ytdgpacdknpahnaa
open Go.Conc Go.Proofs.Try
set_option maxRecDepth 100000
set_option linter.unusedVariables false
section
variable {main : Bool} {J : JT} {n0 : Nat} {h : List AObj} {K : Value → List AObj → Prop}
theorem at103 : prog.funcs[103]? = some f103 := by kernel_rfl
theorem body103 : f103.body = some (codeOf f103) := by kernel_rfl
theorem e103 {a0 a1 : Value} : W prog J 18 h.length 103 (codeOf f103) (RG.mk (regs [a0, a1]) []) h (RetQ prog [.tmp 4] h.length K) =
(aLenS a1 fun v1 =>
Sem J 18 h.length 103 (subC [1, 0, 1, 0] (codeOf f103)) (((((RG.mk (regs [a0, a1]) []).put 4 (vint 0)).put 7 a1).put 8 v1).put 9 (vint 0)) h (contQ prog J 18 h.length 103 [1, 0, 1, 0] (codeOf f103) [] (RetQ prog [.tmp 4] h.length K))) := by kernel_rfl
theorem g103 (hJ : Closed prog main J) {a0 a1 : Value} (hs : heapOk h → W prog J 18 h.length 103 (codeOf f103) (RG.mk (regs [a0, a1]) []) h (RetQ prog [.tmp 4] h.length K)) : Good prog J 103 [a0, a1] h K :=
  good_of_W hJ mixed at103 body103 (by kernel_rfl) (Nat.le_of_ble_eq_true rfl) hs
-- loop [1, 0, 1, 0, 0]
theorem s103_1 {f : RG} {nx0 : RG → List AObj → Prop} : W prog J 18 n0 103 (subC [1, 0, 1, 0, 0] (codeOf f103)) f h (thenK nx0 (contQ prog J 18 n0 103 [1, 0, 1, 0] (codeOf f103) [] (RetQ prog [.tmp 4] n0 K))) =
(aBin prog .lss 3 (f.r 9) (f.r 8) fun v1 =>
cnd v1
(aIdx 1 (f.r 7) (f.r 9) fun v2 =>
aLoad false 1 v2 h fun v3 =>
aMin (f.r 0) [v3] fun v4 =>
aBin prog .add 3 (f.r 9) (vint 1) fun v5 =>
nx0 ((((((((((f.put 10 v1).put 11 v2).put 12 v3).put 6 v3).put 13 (f.r 0)).put 14 v3).put 15 v4).put 0 v4).put 16 v5).put 9 v5) h)
(retL n0 K f.ds [(f.r 0)] h)) := by kernel_rfl
theorem l103_1 (hJ : Closed prog main J) {S : Type} (μ : S → Nat) (I : S → RG → List AObj → Prop) (hI : ∀ s f h, I s f h → heapOk h → n0 ≤ h.length → W prog J 18 n0 103 (subC [1, 0, 1, 0, 0] (codeOf f103)) f h (thenK (Nx n0 μ I s) (contQ prog J 18 n0 103 [1, 0, 1, 0] (codeOf f103) [] (RetQ prog [.tmp 4] n0 K))))
  {s : S} {f : RG} (hi : Gets n0 I s f h) : Sem J 18 n0 103 (subC [1, 0, 1, 0] (codeOf f103)) f h (contQ prog J 18 n0 103 [1, 0, 1, 0] (codeOf f103) [] (RetQ prog [.tmp 4] n0 K)) :=
  loop_rule hJ mixed (b := subC [1, 0, 1, 0, 0] (codeOf f103)) (by kernel_rfl) μ I hI hi
theorem at102 : prog.funcs[102]? = some f102 := by kernel_rfl
theorem body102 : f102.body = some (codeOf f102) := by kernel_rfl
theorem e102 {a0 a1 : Value} : W prog J 16 h.length 102 (codeOf f102) (RG.mk (regs [a0, a1]) []) h (RetQ prog [.tmp 3] h.length K) =
(aLoad false 1 a1 h fun v1 =>
aIdx 2 v1 a0 fun v2 =>
aOff v2 1 fun v3 =>
aLoad false 1 v3 h fun v4 =>
aLoad false 1 a1 h fun v5 =>
aIdx 2 v5 a0 fun v6 =>
aOff v6 0 fun v7 =>
aLoad false 1 v7 h fun v8 =>
aBin prog .sub 3 v4 v8 fun v9 =>
aBin prog .add 3 v9 (vint 1) fun v10 =>
retL h.length K [] [v10] h) := by kernel_rfl
theorem g102 (hJ : Closed prog main J) {a0 a1 : Value} (hs : heapOk h → W prog J 16 h.length 102 (codeOf f102) (RG.mk (regs [a0, a1]) []) h (RetQ prog [.tmp 3] h.length K)) : Good prog J 102 [a0, a1] h K :=
  good_of_W hJ mixed at102 body102 (by kernel_rfl) (Nat.le_of_ble_eq_true rfl) hs
theorem at73 : prog.funcs[73]? = some f73 := by kernel_rfl
theorem body73 : f73.body = some (codeOf f73) := by kernel_rfl
theorem e73 {a0 a1 a2 a3 : Value} : W prog J 162 h.length 73 (codeOf f73) (RG.mk (regs [a0, a1, a2, a3]) []) h (RetQ prog [.cell 8 98] h.length K) =
(aBox a1 h fun v1 h2 =>
aAlloc [(vint 0), (vint 0)] h2 fun v3 h4 =>
aMkF 102 [] [v1] fun v5 =>
callV prog (Good prog J) v5 [a2] h4 fun v6 h7 =>
((List.length [(vint 0), (vint 0)] = 2 ∧ 16 ≤ 1024) ∧ aMkS [(vint 0), (vint 0)] v6 v6 h7 fun v8 h9 =>
Sem J 162 h.length 73 (subC [1, 1, 1, 0, 1, 0] (codeOf f73)) ((((((((((((RG.mk (regs [a0, a1, a2, a3]) []).put 5 v1).put 8 v3).put 22 v5).put 9 v5).put 23 v5).put 24 a2).put 25 v6).put 26 v8).put 10 v8).put 27 a2).put 11 a2) h9 (contQ prog J 162 h.length 73 [1, 1, 1, 0, 1, 0] (codeOf f73) [] (RetQ prog [.cell 8 98] h.length K)))) := by kernel_rfl
theorem g73 (hJ : Closed prog main J) {a0 a1 a2 a3 : Value} (hs : heapOk h → W prog J 162 h.length 73 (codeOf f73) (RG.mk (regs [a0, a1, a2, a3]) []) h (RetQ prog [.cell 8 98] h.length K)) : Good prog J 73 [a0, a1, a2, a3] h K :=
  good_of_W hJ mixed at73 body73 (by kernel_rfl) (Nat.le_of_ble_eq_true rfl) hs
-- loop [1, 1, 1, 0, 1, 0, 0]
theorem s73_1 {f : RG} {nx0 : RG → List AObj → Prop} : W prog J 162 n0 73 (subC [1, 1, 1, 0, 1, 0, 0] (codeOf f73)) f h (thenK nx0 (contQ prog J 162 n0 73 [1, 1, 1, 0, 1, 0] (codeOf f73) [] (RetQ prog [.cell 8 98] n0 K))) =
(aBin prog .lss 3 (f.r 11) (f.r 3) fun v1 =>
cnd v1
(aBin prog .add 3 (f.r 11) (vint 1) fun v2 =>
callV prog (Good prog J) (f.r 9) [v2] h fun v3 h4 =>
((List.length [(vint 0), (vint 0)] = 2 ∧ 16 ≤ 1024) ∧ aMkS [(vint 0), (vint 0)] v3 v3 h4 fun v5 h6 =>
aLenS v5 fun v7 =>
Sem J 162 n0 73 (subC [1, 1, 1, 0, 1, 0, 0, 1, 0, 0, 1, 0, 1, 0] (codeOf f73)) ((((((((((((f.put 28 (f.r 11)).put 29 (f.r 3)).put 30 v1).put 33 (f.r 9)).put 34 (f.r 11)).put 35 v2).put 36 v3).put 37 v5).put 12 v5).put 38 v5).put 39 v7).put 40 (vint 0)) h6 (contQ prog J 162 n0 73 [1, 1, 1, 0, 1, 0, 0, 1, 0, 0, 1, 0, 1, 0] (codeOf f73) [nx0] (RetQ prog [.cell 8 98] n0 K))))
(aIdx 2 (f.r 10) (vint 0) fun v8 =>
aLoad true 2 v8 h fun v9 =>
aAlloc [(vint 0), (vint 0)] h fun v10 h11 =>
aStore 2 v10 v9 h11 fun h12 =>
aLenS (f.r 10) fun v13 =>
Sem J 162 n0 73 (subC [1, 1, 1, 1, 1, 0, 1, 0] (codeOf f73)) ((((((((((f.put 28 (f.r 11)).put 29 (f.r 3)).put 30 v1).put 139 (f.r 10)).put 140 v8).put 141 v9).put 19 v10).put 142 (f.r 10)).put 143 v13).put 144 (vint 0)) h12 (contQ prog J 162 n0 73 [1, 1, 1, 1, 1, 0, 1, 0] (codeOf f73) [] (RetQ prog [.cell 8 98] n0 K)))) := by kernel_rfl
theorem l73_1 (hJ : Closed prog main J) {S : Type} (μ : S → Nat) (I : S → RG → List AObj → Prop) (hI : ∀ s f h, I s f h → heapOk h → n0 ≤ h.length → W prog J 162 n0 73 (subC [1, 1, 1, 0, 1, 0, 0] (codeOf f73)) f h (thenK (Nx n0 μ I s) (contQ prog J 162 n0 73 [1, 1, 1, 0, 1, 0] (codeOf f73) [] (RetQ prog [.cell 8 98] n0 K))))
  {s : S} {f : RG} (hi : Gets n0 I s f h) : Sem J 162 n0 73 (subC [1, 1, 1, 0, 1, 0] (codeOf f73)) f h (contQ prog J 162 n0 73 [1, 1, 1, 0, 1, 0] (codeOf f73) [] (RetQ prog [.cell 8 98] n0 K)) :=
  loop_rule hJ mixed (b := subC [1, 1, 1, 0, 1, 0, 0] (codeOf f73)) (by kernel_rfl) μ I hI hi
-- loop [1, 1, 1, 0, 1, 0, 0, 1, 0, 0, 1, 0, 1, 0, 0]
theorem s73_2 {f : RG} {nx0 nx1 : RG → List AObj → Prop} : W prog J 162 n0 73 (subC [1, 1, 1, 0, 1, 0, 0, 1, 0, 0, 1, 0, 1, 0, 0] (codeOf f73)) f h (thenK nx1 (contQ prog J 162 n0 73 [1, 1, 1, 0, 1, 0, 0, 1, 0, 0, 1, 0, 1, 0] (codeOf f73) [nx0] (RetQ prog [.cell 8 98] n0 K))) =
(aBin prog .lss 3 (f.r 40) (f.r 39) fun v1 =>
cnd v1
(aFill [(vint 0), (vint 0)] [(0, 1, (vint 1048576)), (1, 1, (vint (-1)))] fun c2 =>
aIdx 2 (f.r 12) (f.r 40) fun v3 =>
aStore 2 v3 (Value.agg ⟨c2⟩) h fun h4 =>
aLoad false 1 (f.r 5) h4 fun v5 =>
aBin prog .add 3 (f.r 11) (vint 1) fun v6 =>
aIdx 2 v5 v6 fun v7 =>
aOff v7 0 fun v8 =>
aLoad false 1 v8 h4 fun v9 =>
aBin prog .add 3 v9 (f.r 40) fun v10 =>
aLenS (f.r 10) fun v11 =>
Sem J 162 n0 73 (subC [1, 1, 1, 0, 1, 0, 0, 1, 0, 0, 1, 0, 1, 0, 0, 1, 1, 0, 0, 1, 1, 1, 1, 0] (codeOf f73)) (((((((((((((((((((f.put 41 v1).put 42 (f.r 40)).put 13 (f.r 40)).put 43 (f.r 12)).put 44 (f.r 40)).put 45 (Value.agg ⟨c2⟩)).put 46 v3).put 47 v5).put 48 (f.r 11)).put 49 v6).put 50 v7).put 51 v8).put 52 v9).put 53 (f.r 40)).put 54 v10).put 14 v10).put 55 (f.r 10)).put 56 v11).put 57 (vint 0)) h4 (contQ prog J 162 n0 73 [1, 1, 1, 0, 1, 0, 0, 1, 0, 0, 1, 0, 1, 0, 0, 1, 1, 0, 0, 1, 1, 1, 1, 0] (codeOf f73) [nx0, nx1] (RetQ prog [.cell 8 98] n0 K)))
(aBin prog .add 3 (f.r 11) (vint 1) fun v12 =>
nx0 ((((((f.put 41 v1).put 138 (f.r 12)).put 10 (f.r 12)).put 31 (f.r 11)).put 32 v12).put 11 v12) h)) := by kernel_rfl
theorem l73_2 (hJ : Closed prog main J) {nx0 : RG → List AObj → Prop} {S : Type} (μ : S → Nat) (I : S → RG → List AObj → Prop) (hI : ∀ s f h, I s f h → heapOk h → n0 ≤ h.length → W prog J 162 n0 73 (subC [1, 1, 1, 0, 1, 0, 0, 1, 0, 0, 1, 0, 1, 0, 0] (codeOf f73)) f h (thenK (Nx n0 μ I s) (contQ prog J 162 n0 73 [1, 1, 1, 0, 1, 0, 0, 1, 0, 0, 1, 0, 1, 0] (codeOf f73) [nx0] (RetQ prog [.cell 8 98] n0 K))))
  {s : S} {f : RG} (hi : Gets n0 I s f h) : Sem J 162 n0 73 (subC [1, 1, 1, 0, 1, 0, 0, 1, 0, 0, 1, 0, 1, 0] (codeOf f73)) f h (contQ prog J 162 n0 73 [1, 1, 1, 0, 1, 0, 0, 1, 0, 0, 1, 0, 1, 0] (codeOf f73) [nx0] (RetQ prog [.cell 8 98] n0 K)) :=
  loop_rule hJ mixed (b := subC [1, 1, 1, 0, 1, 0, 0, 1, 0, 0, 1, 0, 1, 0, 0] (codeOf f73)) (by kernel_rfl) μ I hI hi
-- loop [1, 1, 1, 1, 1, 0, 1, 0, 0]
theorem s73_3 {f : RG} {nx0 : RG → List AObj → Prop} : W prog J 162 n0 73 (subC [1, 1, 1, 1, 1, 0, 1, 0, 0] (codeOf f73)) f h (thenK nx0 (contQ prog J 162 n0 73 [1, 1, 1, 1, 1, 0, 1, 0] (codeOf f73) [] (RetQ prog [.cell 8 98] n0 K))) =
(aBin prog .lss 3 (f.r 144) (f.r 143) fun v1 =>
cnd v1
(aIdx 2 (f.r 142) (f.r 144) fun v2 =>
aLoad true 2 v2 h fun v3 =>
aAlloc [(vint 0), (vint 0)] h fun v4 h5 =>
aStore 2 v4 v3 h5 fun h6 =>
(∃ B, aOff (f.r 19) 0 fun v7 =>
aLoad false 1 v7 h6 fun v8 =>
RdOk (some B) (ptrBlk v7) ∧ (aOff v4 0 fun v9 =>
aLoad false 1 v9 h6 fun v10 =>
RdOk (some B) (ptrBlk v9) ∧ (aOff (f.r 19) 1 fun v11 =>
aLoad false 1 v11 h6 fun v12 =>
RdOk (some B) (ptrBlk v11) ∧ (aOff v4 1 fun v13 =>
aLoad false 1 v13 h6 fun v14 =>
RdOk (some B) (ptrBlk v13) ∧ (aMax v12 [v14] fun v15 =>
((1 * 1 ≤ 16777216 ∧ 1 ≤ 16777216 ∧ List.length [(vint 0)] = 1) ∧ aFill (zrep [(vint 0)] 1) [(0, 1, v10)] fun c16 =>
aNewS 1 c16 h6 fun v17 h18 =>
SameB (some B) h6 h18 ∧ (Good prog J 103 [v8, v17] h18 fun v19 h20 =>
SameB (some B) h6 h20 ∧ (aFill [(vint 0), (vint 0)] [(0, 1, v19), (1, 1, v15)] fun c21 =>
aStore 2 (f.r 19) (Value.agg ⟨c21⟩) h20 fun h22 =>
aBin prog .add 3 (f.r 144) (vint 1) fun v23 =>
nx0 ((((((((((((((((((f.put 145 v1).put 146 v2).put 147 v3).put 21 v4).put 148 v7).put 149 v8).put 150 v9).put 151 v10).put 154 v11).put 155 v12).put 156 v13).put 157 v14).put 158 v15).put 152 v17).put 153 v19).put 159 (Value.agg ⟨c21⟩)).put 160 v23).put 144 v23) h22)))))))))
(aLoad true 2 (f.r 19) h fun v24 =>
aStore 2 (f.r 8) v24 h fun h25 =>
RetQ prog [.cell 8 98] n0 K .ret ((f.put 145 v1).put 161 v24) h25)) := by kernel_rfl
theorem l73_3 (hJ : Closed prog main J) {S : Type} (μ : S → Nat) (I : S → RG → List AObj → Prop) (hI : ∀ s f h, I s f h → heapOk h → n0 ≤ h.length → W prog J 162 n0 73 (subC [1, 1, 1, 1, 1, 0, 1, 0, 0] (codeOf f73)) f h (thenK (Nx n0 μ I s) (contQ prog J 162 n0 73 [1, 1, 1, 1, 1, 0, 1, 0] (codeOf f73) [] (RetQ prog [.cell 8 98] n0 K))))
  {s : S} {f : RG} (hi : Gets n0 I s f h) : Sem J 162 n0 73 (subC [1, 1, 1, 1, 1, 0, 1, 0] (codeOf f73)) f h (contQ prog J 162 n0 73 [1, 1, 1, 1, 1, 0, 1, 0] (codeOf f73) [] (RetQ prog [.cell 8 98] n0 K)) :=
  loop_rule hJ mixed (b := subC [1, 1, 1, 1, 1, 0, 1, 0, 0] (codeOf f73)) (by kernel_rfl) μ I hI hi
-- loop [1, 1, 1, 0, 1, 0, 0, 1, 0, 0, 1, 0, 1, 0, 0, 1, 1, 0, 0, 1, 1, 1, 1, 0, 0]
theorem s73_4 {f : RG} {nx0 nx1 nx2 : RG → List AObj → Prop} : W prog J 162 n0 73 (subC [1, 1, 1, 0, 1, 0, 0, 1, 0, 0, 1, 0, 1, 0, 0, 1, 1, 0, 0, 1, 1, 1, 1, 0, 0] (codeOf f73)) f h (thenK nx2 (contQ prog J 162 n0 73 [1, 1, 1, 0, 1, 0, 0, 1, 0, 0, 1, 0, 1, 0, 0, 1, 1, 0, 0, 1, 1, 1, 1, 0] (codeOf f73) [nx0, nx1] (RetQ prog [.cell 8 98] n0 K))) =
(aBin prog .lss 3 (f.r 57) (f.r 56) fun v1 =>
cnd v1
(aIdx 2 (f.r 55) (f.r 57) fun v2 =>
aLoad true 2 v2 h fun v3 =>
aAlloc [(vint 0), (vint 0)] h fun v4 h5 =>
aStore 2 v4 v3 h5 fun h6 =>
aLoad false 1 (f.r 5) h6 fun v7 =>
aIdx 2 v7 (f.r 11) fun v8 =>
aOff v8 0 fun v9 =>
aLoad false 1 v9 h6 fun v10 =>
aBin prog .add 3 v10 (f.r 57) fun v11 =>
(∃ B, aNil (f.r 0) fun v12 =>
aOff v12 0 fun v13 =>
aOff v13 3 fun v14 =>
aLoad false 1 v14 h6 fun v15 =>
RdOk (some B) (ptrBlk v14) ∧ (aIdx 2 v15 (f.r 11) fun v16 =>
aOff v16 0 fun v17 =>
aLoad false 1 v17 h6 fun v18 =>
RdOk (some B) (ptrBlk v17) ∧ (aBin prog .add 3 v11 v18 fun v19 =>
aBin prog .sub 3 v19 (f.r 14) fun v20 =>
aMax (vint 0) [v20] fun v21 =>
aNil (f.r 0) fun v22 =>
aOff v22 0 fun v23 =>
aOff v23 4 fun v24 =>
aLoad false 1 v24 h6 fun v25 =>
RdOk (some B) (ptrBlk v24) ∧ (aNil (f.r 0) fun v26 =>
aOff v26 0 fun v27 =>
aOff v27 3 fun v28 =>
aLoad false 1 v28 h6 fun v29 =>
RdOk (some B) (ptrBlk v28) ∧ (aIdx 2 v29 (f.r 11) fun v30 =>
aOff v30 1 fun v31 =>
aLoad false 1 v31 h6 fun v32 =>
RdOk (some B) (ptrBlk v31) ∧ (aBin prog .add 3 v11 v32 fun v33 =>
aBin prog .sub 3 v33 (f.r 14) fun v34 =>
(((1 * 1 ≤ 16777216 ∧ 1 ≤ 16777216 ∧ List.length [(vint 0)] = 1) ∧ aFill (zrep [(vint 0)] 1) [(0, 1, v34)] fun c35 =>
aNewS 1 c35 h6 fun v36 h37 =>
SameB (some B) h6 h37 ∧ ((Good prog J 103 [v25, v36] h37 fun v38 h39 =>
SameB (some B) h6 h39 ∧ (aFill [(vint 0), (vint 0)] [(0, 1, v21), (1, 1, v38)] fun c40 =>
aAlloc [(vint 0), (vint 0)] h39 fun v41 h42 =>
SameB (some B) h6 h42 ∧ (aStore 2 v41 (Value.agg ⟨c40⟩) h42 fun h43 =>
W prog J 162 n0 73 (subC [1, 1, 1, 0, 1, 0, 0, 1, 0, 0, 1, 0, 1, 0, 0, 1, 1, 0, 0, 1, 1, 1, 1, 0, 0, 1, 1, 0, 0, 1, 1, 1] (codeOf f73)) ((((((((((((((((((((((((((((((((((((((((((((((((((f.put 58 v1).put 59 (f.r 57)).put 60 v2).put 61 v3).put 16 v4).put 15 (f.r 57)).put 62 v7).put 63 (f.r 11)).put 64 v8).put 65 v9).put 66 v10).put 67 (f.r 57)).put 68 v11).put 17 v11).put 69 v11).put 70 (f.r 0)).put 71 v12).put 72 v13).put 73 v14).put 74 v15).put 75 (f.r 11)).put 76 v16).put 77 v17).put 78 v18).put 79 v19).put 80 (f.r 14)).put 81 v20).put 82 v21).put 83 (f.r 0)).put 84 v22).put 85 v23).put 86 v24).put 87 v25).put 88 v11).put 89 (f.r 0)).put 90 v26).put 91 v27).put 92 v28).put 93 v29).put 94 (f.r 11)).put 95 v30).put 96 v31).put 97 v32).put 98 v33).put 99 (f.r 14)).put 100 v34).put 101 v36).put 102 v38).put 103 (Value.agg ⟨c40⟩)).put 18 v41) h43 (contQ prog J 162 n0 73 [1, 1, 1, 0, 1, 0, 0, 1, 0, 0, 1, 0, 1, 0, 0, 1, 1, 0, 0, 1, 1, 1, 1, 0, 0, 1, 1, 0, 0, 1, 1, 1] (codeOf f73) [nx0, nx1, nx2] (RetQ prog [.cell 8 98] n0 K))))) ∧ (aAlloc [(vint 0), (vint 0)] h37 fun v44 h45 =>
SameB (some B) h6 h45 ∧ (Good prog J 103 [v25, v36] h45 fun v46 h47 =>
SameB (some B) h6 h47 ∧ (aFill [(vint 0), (vint 0)] [(0, 1, v21), (1, 1, v46)] fun c48 =>
aStore 2 v44 (Value.agg ⟨c48⟩) h47 fun h49 =>
W prog J 162 n0 73 (subC [1, 1, 1, 0, 1, 0, 0, 1, 0, 0, 1, 0, 1, 0, 0, 1, 1, 0, 0, 1, 1, 1, 1, 0, 0, 1, 1, 0, 0, 1, 1, 1] (codeOf f73)) ((((((((((((((((((((((((((((((((((((((((((((((((((f.put 58 v1).put 59 (f.r 57)).put 60 v2).put 61 v3).put 16 v4).put 15 (f.r 57)).put 62 v7).put 63 (f.r 11)).put 64 v8).put 65 v9).put 66 v10).put 67 (f.r 57)).put 68 v11).put 17 v11).put 69 v11).put 70 (f.r 0)).put 71 v12).put 72 v13).put 73 v14).put 74 v15).put 75 (f.r 11)).put 76 v16).put 77 v17).put 78 v18).put 79 v19).put 80 (f.r 14)).put 81 v20).put 82 v21).put 83 (f.r 0)).put 84 v22).put 85 v23).put 86 v24).put 87 v25).put 88 v11).put 89 (f.r 0)).put 90 v26).put 91 v27).put 92 v28).put 93 v29).put 94 (f.r 11)).put 95 v30).put 96 v31).put 97 v32).put 98 v33).put 99 (f.r 14)).put 100 v34).put 101 v36).put 18 v44).put 102 v46).put 103 (Value.agg ⟨c48⟩)) h49 (contQ prog J 162 n0 73 [1, 1, 1, 0, 1, 0, 0, 1, 0, 0, 1, 0, 1, 0, 0, 1, 1, 0, 0, 1, 1, 1, 1, 0, 0, 1, 1, 0, 0, 1, 1, 1] (codeOf f73) [nx0, nx1, nx2] (RetQ prog [.cell 8 98] n0 K)))))))) ∧ (aAlloc [(vint 0), (vint 0)] h6 fun v50 h51 =>
SameB (some B) h6 h51 ∧ (((1 * 1 ≤ 16777216 ∧ 1 ≤ 16777216 ∧ List.length [(vint 0)] = 1) ∧ aFill (zrep [(vint 0)] 1) [(0, 1, v34)] fun c52 =>
aNewS 1 c52 h51 fun v53 h54 =>
SameB (some B) h6 h54 ∧ (Good prog J 103 [v25, v53] h54 fun v55 h56 =>
SameB (some B) h6 h56 ∧ (aFill [(vint 0), (vint 0)] [(0, 1, v21), (1, 1, v55)] fun c57 =>
aStore 2 v50 (Value.agg ⟨c57⟩) h56 fun h58 =>
W prog J 162 n0 73 (subC [1, 1, 1, 0, 1, 0, 0, 1, 0, 0, 1, 0, 1, 0, 0, 1, 1, 0, 0, 1, 1, 1, 1, 0, 0, 1, 1, 0, 0, 1, 1, 1] (codeOf f73)) ((((((((((((((((((((((((((((((((((((((((((((((((((f.put 58 v1).put 59 (f.r 57)).put 60 v2).put 61 v3).put 16 v4).put 15 (f.r 57)).put 62 v7).put 63 (f.r 11)).put 64 v8).put 65 v9).put 66 v10).put 67 (f.r 57)).put 68 v11).put 17 v11).put 69 v11).put 70 (f.r 0)).put 71 v12).put 72 v13).put 73 v14).put 74 v15).put 75 (f.r 11)).put 76 v16).put 77 v17).put 78 v18).put 79 v19).put 80 (f.r 14)).put 81 v20).put 82 v21).put 83 (f.r 0)).put 84 v22).put 85 v23).put 86 v24).put 87 v25).put 88 v11).put 89 (f.r 0)).put 90 v26).put 91 v27).put 92 v28).put 93 v29).put 94 (f.r 11)).put 95 v30).put 96 v31).put 97 v32).put 98 v33).put 99 (f.r 14)).put 100 v34).put 18 v50).put 101 v53).put 102 v55).put 103 (Value.agg ⟨c57⟩)) h58 (contQ prog J 162 n0 73 [1, 1, 1, 0, 1, 0, 0, 1, 0, 0, 1, 0, 1, 0, 0, 1, 1, 0, 0, 1, 1, 1, 1, 0, 0, 1, 1, 0, 0, 1, 1, 1] (codeOf f73) [nx0, nx1, nx2] (RetQ prog [.cell 8 98] n0 K))))))))))))))
(aBin prog .add 3 (f.r 40) (vint 1) fun v59 =>
nx1 (((f.put 58 v1).put 137 v59).put 40 v59) h)) := by kernel_rfl
theorem l73_4 (hJ : Closed prog main J) {nx0 nx1 : RG → List AObj → Prop} {S : Type} (μ : S → Nat) (I : S → RG → List AObj → Prop) (hI : ∀ s f h, I s f h → heapOk h → n0 ≤ h.length → W prog J 162 n0 73 (subC [1, 1, 1, 0, 1, 0, 0, 1, 0, 0, 1, 0, 1, 0, 0, 1, 1, 0, 0, 1, 1, 1, 1, 0, 0] (codeOf f73)) f h (thenK (Nx n0 μ I s) (contQ prog J 162 n0 73 [1, 1, 1, 0, 1, 0, 0, 1, 0, 0, 1, 0, 1, 0, 0, 1, 1, 0, 0, 1, 1, 1, 1, 0] (codeOf f73) [nx0, nx1] (RetQ prog [.cell 8 98] n0 K))))
  {s : S} {f : RG} (hi : Gets n0 I s f h) : Sem J 162 n0 73 (subC [1, 1, 1, 0, 1, 0, 0, 1, 0, 0, 1, 0, 1, 0, 0, 1, 1, 0, 0, 1, 1, 1, 1, 0] (codeOf f73)) f h (contQ prog J 162 n0 73 [1, 1, 1, 0, 1, 0, 0, 1, 0, 0, 1, 0, 1, 0, 0, 1, 1, 0, 0, 1, 1, 1, 1, 0] (codeOf f73) [nx0, nx1] (RetQ prog [.cell 8 98] n0 K)) :=
  loop_rule hJ mixed (b := subC [1, 1, 1, 0, 1, 0, 0, 1, 0, 0, 1, 0, 1, 0, 0, 1, 1, 0, 0, 1, 1, 1, 1, 0, 0] (codeOf f73)) (by kernel_rfl) μ I hI hi
-- join [1, 1, 1, 0, 1, 0, 0, 1, 0, 0, 1, 0, 1, 0, 0, 1, 1, 0, 0, 1, 1, 1, 1, 0, 0, 1, 1, 0, 0, 1, 1, 1]
theorem s73_5 {f : RG} {nx0 nx1 nx2 : RG → List AObj → Prop} : W prog J 162 n0 73 (subC [1, 1, 1, 0, 1, 0, 0, 1, 0, 0, 1, 0, 1, 0, 0, 1, 1, 0, 0, 1, 1, 1, 1, 0, 0, 1, 1, 0, 0, 1, 1, 1] (codeOf f73)) f h (contQ prog J 162 n0 73 [1, 1, 1, 0, 1, 0, 0, 1, 0, 0, 1, 0, 1, 0, 0, 1, 1, 0, 0, 1, 1, 1, 1, 0, 0, 1, 1, 0, 0, 1, 1, 1] (codeOf f73) [nx0, nx1, nx2] (RetQ prog [.cell 8 98] n0 K)) =
(aLoad true 2 (f.r 16) h fun v1 =>
Good prog J 104 [v1] h fun v2 h3 =>
aUn .not v2 fun v4 =>
cnd v4
(aLoad true 2 (f.r 18) h3 fun v5 =>
Good prog J 104 [v5] h3 fun v6 h7 =>
aUn .not v6 fun v8 =>
W prog J 162 n0 73 (subC [1, 1, 1, 0, 1, 0, 0, 1, 0, 0, 1, 0, 1, 0, 0, 1, 1, 0, 0, 1, 1, 1, 1, 0, 0, 1, 1, 0, 0, 1, 1, 1, 1] (codeOf f73)) (((((((((f.put 104 v1).put 105 v2).put 106 v4).put 107 v4).put 107 (Value.bool true)).put 108 v5).put 109 v6).put 110 v8).put 111 v8) h7 (contQ prog J 162 n0 73 [1, 1, 1, 0, 1, 0, 0, 1, 0, 0, 1, 0, 1, 0, 0, 1, 1, 0, 0, 1, 1, 1, 1, 0, 0, 1, 1, 0, 0, 1, 1, 1, 1] (codeOf f73) [nx0, nx1, nx2] (RetQ prog [.cell 8 98] n0 K)))
(W prog J 162 n0 73 (subC [1, 1, 1, 0, 1, 0, 0, 1, 0, 0, 1, 0, 1, 0, 0, 1, 1, 0, 0, 1, 1, 1, 1, 0, 0, 1, 1, 0, 0, 1, 1, 1, 1] (codeOf f73)) (((((((((f.put 104 v1).put 105 v2).put 106 v4).put 107 v4).put 107 (Value.bool false)).put 108 undef).put 109 undef).put 110 undef).put 111 (Value.bool false)) h3 (contQ prog J 162 n0 73 [1, 1, 1, 0, 1, 0, 0, 1, 0, 0, 1, 0, 1, 0, 0, 1, 1, 0, 0, 1, 1, 1, 1, 0, 0, 1, 1, 0, 0, 1, 1, 1, 1] (codeOf f73) [nx0, nx1, nx2] (RetQ prog [.cell 8 98] n0 K)))) := by kernel_rfl
-- join [1, 1, 1, 0, 1, 0, 0, 1, 0, 0, 1, 0, 1, 0, 0, 1, 1, 0, 0, 1, 1, 1, 1, 0, 0, 1, 1, 0, 0, 1, 1, 1, 1]
theorem s73_6 {f : RG} {nx0 nx1 nx2 : RG → List AObj → Prop} : W prog J 162 n0 73 (subC [1, 1, 1, 0, 1, 0, 0, 1, 0, 0, 1, 0, 1, 0, 0, 1, 1, 0, 0, 1, 1, 1, 1, 0, 0, 1, 1, 0, 0, 1, 1, 1, 1] (codeOf f73)) f h (contQ prog J 162 n0 73 [1, 1, 1, 0, 1, 0, 0, 1, 0, 0, 1, 0, 1, 0, 0, 1, 1, 0, 0, 1, 1, 1, 1, 0, 0, 1, 1, 0, 0, 1, 1, 1, 1] (codeOf f73) [nx0, nx1, nx2] (RetQ prog [.cell 8 98] n0 K)) =
(cnd (f.r 111)
(aLoad true 2 (f.r 16) h fun v1 =>
aLoad true 2 (f.r 18) h fun v2 =>
Good prog J 100 [v1, v2] h fun v3 h4 =>
aStore 2 (f.r 16) v3 h4 fun h5 =>
(∃ B, aIdx 2 (f.r 12) (f.r 13) fun v6 =>
aOff v6 0 fun v7 =>
aLoad false 1 v7 h5 fun v8 =>
RdOk (some B) (ptrBlk v7) ∧ (aOff (f.r 16) 0 fun v9 =>
aLoad false 1 v9 h5 fun v10 =>
RdOk (some B) (ptrBlk v9) ∧ (aIdx 2 (f.r 12) (f.r 13) fun v11 =>
aOff v11 1 fun v12 =>
aLoad false 1 v12 h5 fun v13 =>
RdOk (some B) (ptrBlk v12) ∧ (aOff (f.r 16) 1 fun v14 =>
aLoad false 1 v14 h5 fun v15 =>
RdOk (some B) (ptrBlk v14) ∧ (aMax v13 [v15] fun v16 =>
((1 * 1 ≤ 16777216 ∧ 1 ≤ 16777216 ∧ List.length [(vint 0)] = 1) ∧ aFill (zrep [(vint 0)] 1) [(0, 1, v10)] fun c17 =>
aNewS 1 c17 h5 fun v18 h19 =>
SameB (some B) h5 h19 ∧ (Good prog J 103 [v8, v18] h19 fun v20 h21 =>
SameB (some B) h5 h21 ∧ (aFill [(vint 0), (vint 0)] [(0, 1, v20), (1, 1, v16)] fun c22 =>
aIdx 2 (f.r 12) (f.r 13) fun v23 =>
aStore 2 v23 (Value.agg ⟨c22⟩) h21 fun h24 =>
aBin prog .add 3 (f.r 57) (vint 1) fun v25 =>
nx2 ((((((((((((((((((((((((((f.put 112 v1).put 113 v2).put 114 v3).put 115 (f.r 12)).put 116 (f.r 13)).put 117 (f.r 12)).put 118 (f.r 13)).put 119 v6).put 120 v7).put 121 v8).put 122 v9).put 123 v10).put 126 (f.r 12)).put 127 (f.r 13)).put 128 v11).put 129 v12).put 130 v13).put 131 v14).put 132 v15).put 133 v16).put 124 v18).put 125 v20).put 134 (Value.agg ⟨c22⟩)).put 135 v23).put 136 v25).put 57 v25) h24)))))))))
(aBin prog .add 3 (f.r 57) (vint 1) fun v26 =>
nx2 ((f.put 136 v26).put 57 v26) h)) := by kernel_rfl
theorem at31 : prog.funcs[31]? = some f31 := by kernel_rfl
theorem body31 : f31.body = some (codeOf f31) := by kernel_rfl
theorem e31 {a0 a1 a2 : Value} : W prog J 53 h.length 31 (codeOf f31) (RG.mk (regs [a0, a1, a2]) []) h (RetQ prog [.cell 6 38, .tmp 7] h.length K) =
(aBox a0 h fun v1 h2 =>
aAlloc [(vint 0), (vint 0)] h2 fun v3 h4 =>
aLoad true 6 v1 h4 fun v5 =>
Good prog J 71 [v5] h4 fun v6 h7 =>
aExt v6 0 fun v8 =>
aExt v6 1 fun v9 =>
aBin prog .neq 32 v9 (vint 0) fun v10 =>
cnd v10
(aFill [(vint 0), (vint 0)] [] fun c11 =>
aStore 2 v3 (Value.agg ⟨c11⟩) h7 fun h12 =>
RetQ prog [.cell 6 38, .tmp 7] h.length K .ret ((((((((((((((((RG.mk (regs [a0, a1, a2]) []).put 3 v1).put 6 v3).put 7 (vint 0)).put 13 v5).put 14 v6).put 12 v6).put 15 v8).put 16 v9).put 8 v8).put 9 v9).put 17 v9).put 18 v10).put 19 (Value.agg ⟨c11⟩)).put 20 v9).put 7 v9) h12)
(aOff v1 0 fun v13 =>
aLoad false 1 v13 h7 fun v14 =>
aBin prog .sub 3 v14 (vint 1) fun v15 =>
Good prog J 67 [a1, (vint 0), v15] h7 fun v16 h17 =>
aUn .not v16 fun v18 =>
cnd v18
(cnd (Value.bool true)
(aFill [(vint 0), (vint 0)] [] fun c19 =>
aStore 2 v3 (Value.agg ⟨c19⟩) h17 fun h20 =>
RetQ prog [.cell 6 38, .tmp 7] h.length K .ret ((((((((((((((((((((((((((((((RG.mk (regs [a0, a1, a2]) []).put 3 v1).put 6 v3).put 7 (vint 0)).put 13 v5).put 14 v6).put 12 v6).put 15 v8).put 16 v9).put 8 v8).put 9 v9).put 17 v9).put 18 v10).put 21 a1).put 22 v13).put 23 v14).put 24 v15).put 25 v16).put 26 v18).put 27 v18).put 27 (Value.bool true)).put 28 undef).put 29 undef).put 30 undef).put 31 undef).put 32 undef).put 33 undef).put 34 (Value.bool true)).put 35 (Value.agg ⟨c19⟩)).put 7 (vint 3)) h20)
(aBin prog .geq 3 a1 a2 fun v21 =>
cnd v21
(aFill [(vint 0), (vint 0)] [] fun c22 =>
aStore 2 v3 (Value.agg ⟨c22⟩) h17 fun h23 =>
RetQ prog [.cell 6 38, .tmp 7] h.length K .ret (((((((((((((((((((((((((((((((((RG.mk (regs [a0, a1, a2]) []).put 3 v1).put 6 v3).put 7 (vint 0)).put 13 v5).put 14 v6).put 12 v6).put 15 v8).put 16 v9).put 8 v8).put 9 v9).put 17 v9).put 18 v10).put 21 a1).put 22 v13).put 23 v14).put 24 v15).put 25 v16).put 26 v18).put 27 v18).put 27 (Value.bool true)).put 28 undef).put 29 undef).put 30 undef).put 31 undef).put 32 undef).put 33 undef).put 34 (Value.bool true)).put 36 a1).put 37 a2).put 38 v21).put 39 (Value.agg ⟨c22⟩)).put 7 (vint 5)) h23)
(Good prog J 72 [v8] h17 fun v24 h25 =>
aExt v24 0 fun v26 =>
aExt v24 1 fun v27 =>
aUn .not v27 fun v28 =>
cnd v28
(aFill [(vint 0), (vint 0)] [] fun c29 =>
aStore 2 v3 (Value.agg ⟨c29⟩) h25 fun h30 =>
RetQ prog [.cell 6 38, .tmp 7] h.length K .ret ((((((((((((((((((((((((((((((((((((((((((RG.mk (regs [a0, a1, a2]) []).put 3 v1).put 6 v3).put 7 (vint 0)).put 13 v5).put 14 v6).put 12 v6).put 15 v8).put 16 v9).put 8 v8).put 9 v9).put 17 v9).put 18 v10).put 21 a1).put 22 v13).put 23 v14).put 24 v15).put 25 v16).put 26 v18).put 27 v18).put 27 (Value.bool true)).put 28 undef).put 29 undef).put 30 undef).put 31 undef).put 32 undef).put 33 undef).put 34 (Value.bool true)).put 36 a1).put 37 a2).put 38 v21).put 41 v8).put 42 v24).put 40 v24).put 43 v26).put 44 v27).put 10 v26).put 11 v27).put 45 v27).put 46 v28).put 47 (Value.agg ⟨c29⟩)).put 7 (vint 11)) h30)
(Good prog J 73 [v8, v26, a1, a2] h25 fun v31 h32 =>
aStore 2 v3 v31 h32 fun h33 =>
RetQ prog [.cell 6 38, .tmp 7] h.length K .ret ((((((((((((((((((((((((((((((((((((((((((((((RG.mk (regs [a0, a1, a2]) []).put 3 v1).put 6 v3).put 7 (vint 0)).put 13 v5).put 14 v6).put 12 v6).put 15 v8).put 16 v9).put 8 v8).put 9 v9).put 17 v9).put 18 v10).put 21 a1).put 22 v13).put 23 v14).put 24 v15).put 25 v16).put 26 v18).put 27 v18).put 27 (Value.bool true)).put 28 undef).put 29 undef).put 30 undef).put 31 undef).put 32 undef).put 33 undef).put 34 (Value.bool true)).put 36 a1).put 37 a2).put 38 v21).put 41 v8).put 42 v24).put 40 v24).put 43 v26).put 44 v27).put 10 v26).put 11 v27).put 45 v27).put 46 v28).put 48 v8).put 49 v26).put 50 a1).put 51 a2).put 52 v31).put 7 (vint 0)) h33))))
(aOff v1 0 fun v34 =>
aLoad false 1 v34 h17 fun v35 =>
aBin prog .sub 3 v35 (vint 1) fun v36 =>
Good prog J 67 [a2, (vint 0), v36] h17 fun v37 h38 =>
aUn .not v37 fun v39 =>
cnd v39
(aFill [(vint 0), (vint 0)] [] fun c40 =>
aStore 2 v3 (Value.agg ⟨c40⟩) h38 fun h41 =>
RetQ prog [.cell 6 38, .tmp 7] h.length K .ret ((((((((((((((((((((((((((((((RG.mk (regs [a0, a1, a2]) []).put 3 v1).put 6 v3).put 7 (vint 0)).put 13 v5).put 14 v6).put 12 v6).put 15 v8).put 16 v9).put 8 v8).put 9 v9).put 17 v9).put 18 v10).put 21 a1).put 22 v13).put 23 v14).put 24 v15).put 25 v16).put 26 v18).put 27 v18).put 27 (Value.bool false)).put 28 a2).put 29 v34).put 30 v35).put 31 v36).put 32 v37).put 33 v39).put 34 v39).put 35 (Value.agg ⟨c40⟩)).put 7 (vint 3)) h41)
(aBin prog .geq 3 a1 a2 fun v42 =>
cnd v42
(aFill [(vint 0), (vint 0)] [] fun c43 =>
aStore 2 v3 (Value.agg ⟨c43⟩) h38 fun h44 =>
RetQ prog [.cell 6 38, .tmp 7] h.length K .ret (((((((((((((((((((((((((((((((((RG.mk (regs [a0, a1, a2]) []).put 3 v1).put 6 v3).put 7 (vint 0)).put 13 v5).put 14 v6).put 12 v6).put 15 v8).put 16 v9).put 8 v8).put 9 v9).put 17 v9).put 18 v10).put 21 a1).put 22 v13).put 23 v14).put 24 v15).put 25 v16).put 26 v18).put 27 v18).put 27 (Value.bool false)).put 28 a2).put 29 v34).put 30 v35).put 31 v36).put 32 v37).put 33 v39).put 34 v39).put 36 a1).put 37 a2).put 38 v42).put 39 (Value.agg ⟨c43⟩)).put 7 (vint 5)) h44)
(Good prog J 72 [v8] h38 fun v45 h46 =>
aExt v45 0 fun v47 =>
aExt v45 1 fun v48 =>
aUn .not v48 fun v49 =>
cnd v49
(aFill [(vint 0), (vint 0)] [] fun c50 =>
aStore 2 v3 (Value.agg ⟨c50⟩) h46 fun h51 =>
RetQ prog [.cell 6 38, .tmp 7] h.length K .ret ((((((((((((((((((((((((((((((((((((((((((RG.mk (regs [a0, a1, a2]) []).put 3 v1).put 6 v3).put 7 (vint 0)).put 13 v5).put 14 v6).put 12 v6).put 15 v8).put 16 v9).put 8 v8).put 9 v9).put 17 v9).put 18 v10).put 21 a1).put 22 v13).put 23 v14).put 24 v15).put 25 v16).put 26 v18).put 27 v18).put 27 (Value.bool false)).put 28 a2).put 29 v34).put 30 v35).put 31 v36).put 32 v37).put 33 v39).put 34 v39).put 36 a1).put 37 a2).put 38 v42).put 41 v8).put 42 v45).put 40 v45).put 43 v47).put 44 v48).put 10 v47).put 11 v48).put 45 v48).put 46 v49).put 47 (Value.agg ⟨c50⟩)).put 7 (vint 11)) h51)
(Good prog J 73 [v8, v47, a1, a2] h46 fun v52 h53 =>
aStore 2 v3 v52 h53 fun h54 =>
RetQ prog [.cell 6 38, .tmp 7] h.length K .ret ((((((((((((((((((((((((((((((((((((((((((((((RG.mk (regs [a0, a1, a2]) []).put 3 v1).put 6 v3).put 7 (vint 0)).put 13 v5).put 14 v6).put 12 v6).put 15 v8).put 16 v9).put 8 v8).put 9 v9).put 17 v9).put 18 v10).put 21 a1).put 22 v13).put 23 v14).put 24 v15).put 25 v16).put 26 v18).put 27 v18).put 27 (Value.bool false)).put 28 a2).put 29 v34).put 30 v35).put 31 v36).put 32 v37).put 33 v39).put 34 v39).put 36 a1).put 37 a2).put 38 v42).put 41 v8).put 42 v45).put 40 v45).put 43 v47).put 44 v48).put 10 v47).put 11 v48).put 45 v48).put 46 v49).put 48 v8).put 49 v47).put 50 a1).put 51 a2).put 52 v52).put 7 (vint 0)) h54)))))) := by kernel_rfl
theorem g31 (hJ : Closed prog main J) {a0 a1 a2 : Value} (hs : heapOk h → W prog J 53 h.length 31 (codeOf f31) (RG.mk (regs [a0, a1, a2]) []) h (RetQ prog [.cell 6 38, .tmp 7] h.length K)) : Good prog J 31 [a0, a1, a2] h K :=
  good_of_W hJ mixed at31 body31 (by kernel_rfl) (Nat.le_of_ble_eq_true rfl) hs
theorem at41 : prog.funcs[41]? = some f41 := by kernel_rfl
theorem body41 : f41.body = some (codeOf f41) := by kernel_rfl
theorem e41 {a0 a1 : Value} : W prog J 41 h.length 41 (codeOf f41) (RG.mk (regs [a0, a1]) []) h (RetQ prog [.tmp 4, .tmp 5] h.length K) =
(aBox a0 h fun v1 h2 =>
aLoad true 6 v1 h2 fun v3 =>
Good prog J 71 [v3] h2 fun v4 h5 =>
aExt v4 0 fun v6 =>
aExt v4 1 fun v7 =>
aBin prog .neq 32 v7 (vint 0) fun v8 =>
cnd v8
(retL h.length K [] [(vint 0), v7] h5)
(aBin prog .lss 3 a1 (vint 0) fun v9 =>
cnd v9
(retL h.length K [] [(vint 0), (vint 1)] h5)
(Good prog J 72 [v6] h5 fun v10 h11 =>
aExt v10 0 fun v12 =>
aExt v10 1 fun v13 =>
cnd v13
(aOff v1 0 fun v14 =>
aLoad false 1 v14 h11 fun v15 =>
Sem J 41 h.length 41 (subC [1, 1, 1, 1, 0, 1, 1, 0, 1, 0] (codeOf f41)) ((((((((((((((((((((((((((RG.mk (regs [a0, a1]) []).put 2 v1).put 4 (vint 0)).put 5 (vint 0)).put 12 v3).put 13 v4).put 11 v4).put 14 v6).put 15 v7).put 6 v6).put 7 v7).put 16 v7).put 17 v8).put 19 a1).put 20 v9).put 22 v6).put 23 v10).put 21 v10).put 24 v12).put 25 v13).put 8 v12).put 9 v13).put 26 v13).put 27 v14).put 28 v15).put 29 (vint 0)) h11 (contQ prog J 41 h.length 41 [1, 1, 1, 1, 0, 1, 1, 0, 1, 0] (codeOf f41) [] (RetQ prog [.tmp 4, .tmp 5] h.length K)))
(retL h.length K [] [(vint 0), (vint 11)] h11)))) := by kernel_rfl
theorem g41 (hJ : Closed prog main J) {a0 a1 : Value} (hs : heapOk h → W prog J 41 h.length 41 (codeOf f41) (RG.mk (regs [a0, a1]) []) h (RetQ prog [.tmp 4, .tmp 5] h.length K)) : Good prog J 41 [a0, a1] h K :=
  good_of_W hJ mixed at41 body41 (by kernel_rfl) (Nat.le_of_ble_eq_true rfl) hs
-- loop [1, 1, 1, 1, 0, 1, 1, 0, 1, 0, 0]
theorem s41_1 {f : RG} {nx0 : RG → List AObj → Prop} : W prog J 41 n0 41 (subC [1, 1, 1, 1, 0, 1, 1, 0, 1, 0, 0] (codeOf f41)) f h (thenK nx0 (contQ prog J 41 n0 41 [1, 1, 1, 1, 0, 1, 1, 0, 1, 0] (codeOf f41) [] (RetQ prog [.tmp 4, .tmp 5] n0 K))) =
(aBin prog .lss 3 (f.r 29) (f.r 28) fun v1 =>
cnd v1
(Good prog J 73 [(f.r 6), (f.r 8), (vint 0), (f.r 29)] h fun v2 h3 =>
aField false 1 0 v2 fun v4 =>
aBin prog .geq 3 v4 (f.r 1) fun v5 =>
cnd v5
(retL n0 K f.ds [(f.r 29), (vint 0)] h3)
(aBin prog .add 3 (f.r 29) (vint 1) fun v6 =>
nx0 ((((((((((((f.put 30 v1).put 31 (f.r 29)).put 10 (f.r 29)).put 32 (f.r 6)).put 33 (f.r 8)).put 34 (f.r 29)).put 35 v2).put 36 v4).put 37 (f.r 1)).put 38 v5).put 40 v6).put 29 v6) h3))
(retL n0 K f.ds [(vint 0), (vint 11)] h)) := by kernel_rfl
theorem l41_1 (hJ : Closed prog main J) {S : Type} (μ : S → Nat) (I : S → RG → List AObj → Prop) (hI : ∀ s f h, I s f h → heapOk h → n0 ≤ h.length → W prog J 41 n0 41 (subC [1, 1, 1, 1, 0, 1, 1, 0, 1, 0, 0] (codeOf f41)) f h (thenK (Nx n0 μ I s) (contQ prog J 41 n0 41 [1, 1, 1, 1, 0, 1, 1, 0, 1, 0] (codeOf f41) [] (RetQ prog [.tmp 4, .tmp 5] n0 K))))
  {s : S} {f : RG} (hi : Gets n0 I s f h) : Sem J 41 n0 41 (subC [1, 1, 1, 1, 0, 1, 1, 0, 1, 0] (codeOf f41)) f h (contQ prog J 41 n0 41 [1, 1, 1, 1, 0, 1, 1, 0, 1, 0] (codeOf f41) [] (RetQ prog [.tmp 4, .tmp 5] n0 K)) :=
  loop_rule hJ mixed (b := subC [1, 1, 1, 1, 0, 1, 1, 0, 1, 0, 0] (codeOf f41)) (by kernel_rfl) μ I hI hi
theorem at55 : prog.funcs[55]? = some f55 := by kernel_rfl
theorem body55 : f55.body = some (codeOf f55) := by kernel_rfl
theorem e55 {a0 : Value} : W prog J 49 h.length 55 (codeOf f55) (RG.mk (regs [a0]) []) h (RetQ prog [.tmp 2, .tmp 3, .tmp 4] h.length K) =
(aBox a0 h fun v1 h2 =>
aLoad true 6 v1 h2 fun v3 =>
Good prog J 71 [v3] h2 fun v4 h5 =>
aExt v4 0 fun v6 =>
aExt v4 1 fun v7 =>
aBin prog .neq 32 v7 (vint 0) fun v8 =>
cnd v8
(retL h.length K [] [(vint 0), (vint 0), v7] h5)
(Good prog J 72 [v6] h5 fun v9 h10 =>
aExt v9 0 fun v11 =>
aExt v9 1 fun v12 =>
aUn .not v12 fun v13 =>
cnd v13
(retL h.length K [] [(vint 0), (vint 0), (vint 11)] h10)
(aLenS v11 fun v14 =>
Sem J 49 h.length 55 (subC [1, 1, 1, 1, 1, 1, 0, 1, 0] (codeOf f55)) ((((((((((((((((((((((((((((RG.mk (regs [a0]) []).put 1 v1).put 2 (vint 0)).put 3 (vint 0)).put 4 (vint 0)).put 15 v3).put 16 v4).put 14 v4).put 17 v6).put 18 v7).put 5 v6).put 6 v7).put 19 v7).put 20 v8).put 23 v6).put 24 v9).put 22 v9).put 25 v11).put 26 v12).put 7 v11).put 8 v12).put 27 v12).put 28 v13).put 9 (vint 0)).put 10 (vint (-1))).put 29 v11).put 30 v14).put 31 (vint 0)) h10 (contQ prog J 49 h.length 55 [1, 1, 1, 1, 1, 1, 0, 1, 0] (codeOf f55) [] (RetQ prog [.tmp 2, .tmp 3, .tmp 4] h.length K))))) := by kernel_rfl
theorem g55 (hJ : Closed prog main J) {a0 : Value} (hs : heapOk h → W prog J 49 h.length 55 (codeOf f55) (RG.mk (regs [a0]) []) h (RetQ prog [.tmp 2, .tmp 3, .tmp 4] h.length K)) : Good prog J 55 [a0] h K :=
  good_of_W hJ mixed at55 body55 (by kernel_rfl) (Nat.le_of_ble_eq_true rfl) hs
-- loop [1, 1, 1, 1, 1, 1, 0, 1, 0, 0]
theorem s55_1 {f : RG} {nx0 : RG → List AObj → Prop} : W prog J 49 n0 55 (subC [1, 1, 1, 1, 1, 1, 0, 1, 0, 0] (codeOf f55)) f h (thenK nx0 (contQ prog J 49 n0 55 [1, 1, 1, 1, 1, 1, 0, 1, 0] (codeOf f55) [] (RetQ prog [.tmp 2, .tmp 3, .tmp 4] n0 K))) =
(aBin prog .lss 3 (f.r 31) (f.r 30) fun v1 =>
cnd v1
(aIdx 2 (f.r 29) (f.r 31) fun v2 =>
aLoad true 2 v2 h fun v3 =>
aAlloc [(vint 0), (vint 0)] h fun v4 h5 =>
aStore 2 v4 v3 h5 fun h6 =>
aOff v4 1 fun v7 =>
aLoad false 1 v7 h6 fun v8 =>
aOff v4 0 fun v9 =>
aLoad false 1 v9 h6 fun v10 =>
aBin prog .sub 3 v8 v10 fun v11 =>
aBin prog .gtr 3 v11 (f.r 10) fun v12 =>
cnd v12
(aBin prog .add 3 (f.r 31) (vint 1) fun v13 =>
nx0 (((((((((((((((((((((f.put 32 v1).put 33 (f.r 31)).put 34 v2).put 35 v3).put 12 v4).put 11 (f.r 31)).put 36 v7).put 37 v8).put 38 v9).put 39 v10).put 40 v11).put 13 v11).put 41 v11).put 42 (f.r 10)).put 43 v12).put 44 (f.r 31)).put 45 v11).put 9 (f.r 31)).put 10 v11).put 46 v13).put 31 v13) h6)
(aBin prog .add 3 (f.r 31) (vint 1) fun v14 =>
nx0 (((((((((((((((((f.put 32 v1).put 33 (f.r 31)).put 34 v2).put 35 v3).put 12 v4).put 11 (f.r 31)).put 36 v7).put 37 v8).put 38 v9).put 39 v10).put 40 v11).put 13 v11).put 41 v11).put 42 (f.r 10)).put 43 v12).put 46 v14).put 31 v14) h6))
(retL n0 K f.ds [(f.r 9), (f.r 10), (vint 0)] h)) := by kernel_rfl
theorem l55_1 (hJ : Closed prog main J) {S : Type} (μ : S → Nat) (I : S → RG → List AObj → Prop) (hI : ∀ s f h, I s f h → heapOk h → n0 ≤ h.length → W prog J 49 n0 55 (subC [1, 1, 1, 1, 1, 1, 0, 1, 0, 0] (codeOf f55)) f h (thenK (Nx n0 μ I s) (contQ prog J 49 n0 55 [1, 1, 1, 1, 1, 1, 0, 1, 0] (codeOf f55) [] (RetQ prog [.tmp 2, .tmp 3, .tmp 4] n0 K))))
  {s : S} {f : RG} (hi : Gets n0 I s f h) : Sem J 49 n0 55 (subC [1, 1, 1, 1, 1, 1, 0, 1, 0] (codeOf f55)) f h (contQ prog J 49 n0 55 [1, 1, 1, 1, 1, 1, 0, 1, 0] (codeOf f55) [] (RetQ prog [.tmp 2, .tmp 3, .tmp 4] n0 K)) :=
  loop_rule hJ mixed (b := subC [1, 1, 1, 1, 1, 1, 0, 1, 0, 0] (codeOf f55)) (by kernel_rfl) μ I hI hi
end
end Go.Proofs.Ytdgpacdknpahnaa

/- Printed by program: the forms to which the bodies of some functions come down. No conditions. -/
namespace Go.Proofs.Ytdgpacdknpahnaa
open Go.Conc Go.Proofs.Try
set_option maxRecDepth 100000
set_option linter.unusedVariables false
section
variable {main : Bool} {J : JT} {n0 : Nat} {h : List AObj} {K : Value → List AObj → Prop}
theorem at38 : prog.funcs[38]? = some f38 := by kernel_rfl
theorem body38 : f38.body = some (codeOf f38) := by kernel_rfl
theorem e38 {a0 : Value} : W prog J 14 h.length 38 (codeOf f38) (RG.mk (regs [a0]) []) h (RetQ prog [.cell 2 42] h.length K) =
(aBox a0 h fun v1 h2 =>
aAlloc [(vint 0), (vint 0), (vint 0), (Value.slice none 0 0), (vint 0), (Value.slice none 0 0)] h2 fun v3 h4 =>
(∃ B, aOff v1 3 fun v5 =>
aLoad false 1 v5 h4 fun v6 =>
RdOk (some B) (ptrBlk v5) ∧ (aOff v1 5 fun v7 =>
aLoad false 1 v7 h4 fun v8 =>
RdOk (some B) (ptrBlk v7) ∧ ((((0 * 2 ≤ 16777216 ∧ 0 ≤ 16777216 ∧ List.length [(vint 0), (vint 0)] = 2) ∧ aFill (zrep [(vint 0), (vint 0)] 0) [] fun c9 =>
aNewS 0 c9 h4 fun v10 h11 =>
SameB (some B) h4 h11 ∧ ((((List.length [(vint 0), (vint 0)] = 2 ∧ 0 < 2 ∧ 0 < 16 ∧ 16 ≤ 1024) ∧ aApp 2 v10 v6 h11 fun v12 h13 =>
SameB (some B) h4 h13 ∧ (aOff v1 3 fun v14 =>
((0 * 4 ≤ 16777216 ∧ 0 ≤ 16777216 ∧ List.length [(vint 0), (vint 0), (vint 0), (vint 0)] = 4) ∧ aFill (zrep [(vint 0), (vint 0), (vint 0), (vint 0)] 0) [] fun c15 =>
aNewS 0 c15 h13 fun v16 h17 =>
SameB (some B) h4 h17 ∧ (((List.length [(vint 0), (vint 0), (vint 0), (vint 0)] = 4 ∧ 0 < 4 ∧ 0 < 32 ∧ 32 ≤ 1024) ∧ aApp 4 v16 v8 h17 fun v18 h19 =>
SameB (some B) h4 h19 ∧ (aStore 1 v14 v12 h19 fun h20 =>
aOff v1 5 fun v21 =>
aStore 1 v21 v18 h20 fun h22 =>
aLoad true 6 v1 h22 fun v23 =>
aStore 6 v3 v23 h22 fun h24 =>
RetQ prog [.cell 2 42] h.length K .ret ((((((((((((((RG.mk (regs [a0]) []).put 1 v1).put 2 v3).put 4 v5).put 5 v6).put 8 v7).put 9 v8).put 3 v10).put 6 v12).put 11 v14).put 7 v16).put 10 v18).put 12 v21).put 13 v23) h24))))))) ∧ (((0 * 4 ≤ 16777216 ∧ 0 ≤ 16777216 ∧ List.length [(vint 0), (vint 0), (vint 0), (vint 0)] = 4) ∧ aFill (zrep [(vint 0), (vint 0), (vint 0), (vint 0)] 0) [] fun c25 =>
aNewS 0 c25 h11 fun v26 h27 =>
SameB (some B) h4 h27 ∧ (((List.length [(vint 0), (vint 0)] = 2 ∧ 0 < 2 ∧ 0 < 16 ∧ 16 ≤ 1024) ∧ aApp 2 v10 v6 h27 fun v28 h29 =>
SameB (some B) h4 h29 ∧ (aOff v1 3 fun v30 =>
((List.length [(vint 0), (vint 0), (vint 0), (vint 0)] = 4 ∧ 0 < 4 ∧ 0 < 32 ∧ 32 ≤ 1024) ∧ aApp 4 v26 v8 h29 fun v31 h32 =>
SameB (some B) h4 h32 ∧ (aStore 1 v30 v28 h32 fun h33 =>
aOff v1 5 fun v34 =>
aStore 1 v34 v31 h33 fun h35 =>
aLoad true 6 v1 h35 fun v36 =>
aStore 6 v3 v36 h35 fun h37 =>
RetQ prog [.cell 2 42] h.length K .ret ((((((((((((((RG.mk (regs [a0]) []).put 1 v1).put 2 v3).put 4 v5).put 5 v6).put 8 v7).put 9 v8).put 3 v10).put 7 v26).put 6 v28).put 11 v30).put 10 v31).put 12 v34).put 13 v36) h37)))))))))) ∧ (((0 * 4 ≤ 16777216 ∧ 0 ≤ 16777216 ∧ List.length [(vint 0), (vint 0), (vint 0), (vint 0)] = 4) ∧ aFill (zrep [(vint 0), (vint 0), (vint 0), (vint 0)] 0) [] fun c38 =>
aNewS 0 c38 h4 fun v39 h40 =>
SameB (some B) h4 h40 ∧ (((0 * 2 ≤ 16777216 ∧ 0 ≤ 16777216 ∧ List.length [(vint 0), (vint 0)] = 2) ∧ aFill (zrep [(vint 0), (vint 0)] 0) [] fun c41 =>
aNewS 0 c41 h40 fun v42 h43 =>
SameB (some B) h4 h43 ∧ (((List.length [(vint 0), (vint 0)] = 2 ∧ 0 < 2 ∧ 0 < 16 ∧ 16 ≤ 1024) ∧ aApp 2 v42 v6 h43 fun v44 h45 =>
SameB (some B) h4 h45 ∧ (aOff v1 3 fun v46 =>
((List.length [(vint 0), (vint 0), (vint 0), (vint 0)] = 4 ∧ 0 < 4 ∧ 0 < 32 ∧ 32 ≤ 1024) ∧ aApp 4 v39 v8 h45 fun v47 h48 =>
SameB (some B) h4 h48 ∧ (aStore 1 v46 v44 h48 fun h49 =>
aOff v1 5 fun v50 =>
aStore 1 v50 v47 h49 fun h51 =>
aLoad true 6 v1 h51 fun v52 =>
aStore 6 v3 v52 h51 fun h53 =>
RetQ prog [.cell 2 42] h.length K .ret ((((((((((((((RG.mk (regs [a0]) []).put 1 v1).put 2 v3).put 4 v5).put 5 v6).put 8 v7).put 9 v8).put 7 v39).put 3 v42).put 6 v44).put 11 v46).put 10 v47).put 12 v50).put 13 v52) h53))))))))))))) := by kernel_rfl
theorem g38 (hJ : Closed prog main J) {a0 : Value} (hs : heapOk h → W prog J 14 h.length 38 (codeOf f38) (RG.mk (regs [a0]) []) h (RetQ prog [.cell 2 42] h.length K)) : Good prog J 38 [a0] h K :=
  good_of_W hJ mixed at38 body38 (by kernel_rfl) (Nat.le_of_ble_eq_true rfl) hs
theorem at47 : prog.funcs[47]? = some f47 := by kernel_rfl
theorem body47 : f47.body = some (codeOf f47) := by kernel_rfl
theorem e47 {a0 a1 : Value} : W prog J 26 h.length 47 (codeOf f47) (RG.mk (regs [a0, a1]) []) h (RetQ prog [.tmp 4] h.length K) =
(aLenS a0 fun v1 =>
aLenS a1 fun v2 =>
aBin prog .neq 3 v1 v2 fun v3 =>
cnd v3
(retL h.length K [] [(Value.bool false)] h)
(Sem J 26 h.length 47 (subC [1, 1, 0, 1, 0] (codeOf f47)) ((((((((RG.mk (regs [a0, a1]) []).put 4 (Value.bool false)).put 6 a0).put 7 v1).put 8 a1).put 9 v2).put 10 v3).put 5 (vint 0)) h (contQ prog J 26 h.length 47 [1, 1, 0, 1, 0] (codeOf f47) [] (RetQ prog [.tmp 4] h.length K)))) := by kernel_rfl
theorem g47 (hJ : Closed prog main J) {a0 a1 : Value} (hs : heapOk h → W prog J 26 h.length 47 (codeOf f47) (RG.mk (regs [a0, a1]) []) h (RetQ prog [.tmp 4] h.length K)) : Good prog J 47 [a0, a1] h K :=
  good_of_W hJ mixed at47 body47 (by kernel_rfl) (Nat.le_of_ble_eq_true rfl) hs
-- loop [1, 1, 0, 1, 0, 0]
theorem s47_1 {f : RG} {nx0 : RG → List AObj → Prop} : W prog J 26 n0 47 (subC [1, 1, 0, 1, 0, 0] (codeOf f47)) f h (thenK nx0 (contQ prog J 26 n0 47 [1, 1, 0, 1, 0] (codeOf f47) [] (RetQ prog [.tmp 4] n0 K))) =
(aLenS (f.r 0) fun v1 =>
aBin prog .lss 3 (f.r 5) v1 fun v2 =>
cnd v2
(aIdx 2 (f.r 0) (f.r 5) fun v3 =>
aLoad true 2 v3 h fun v4 =>
aIdx 2 (f.r 1) (f.r 5) fun v5 =>
aLoad true 2 v5 h fun v6 =>
aBin prog .neq 38 v4 v6 fun v7 =>
cnd v7
(retL n0 K f.ds [(Value.bool false)] h)
(aBin prog .add 3 (f.r 5) (vint 1) fun v8 =>
nx0 ((((((((((((((((f.put 11 (f.r 5)).put 12 (f.r 0)).put 13 v1).put 14 v2).put 17 (f.r 0)).put 18 (f.r 5)).put 19 v3).put 20 v4).put 21 (f.r 1)).put 22 (f.r 5)).put 23 v5).put 24 v6).put 25 v7).put 15 (f.r 5)).put 16 v8).put 5 v8) h))
(retL n0 K f.ds [(Value.bool true)] h)) := by kernel_rfl
theorem l47_1 (hJ : Closed prog main J) {S : Type} (μ : S → Nat) (I : S → RG → List AObj → Prop) (hI : ∀ s f h, I s f h → heapOk h → n0 ≤ h.length → W prog J 26 n0 47 (subC [1, 1, 0, 1, 0, 0] (codeOf f47)) f h (thenK (Nx n0 μ I s) (contQ prog J 26 n0 47 [1, 1, 0, 1, 0] (codeOf f47) [] (RetQ prog [.tmp 4] n0 K))))
  {s : S} {f : RG} (hi : Gets n0 I s f h) : Sem J 26 n0 47 (subC [1, 1, 0, 1, 0] (codeOf f47)) f h (contQ prog J 26 n0 47 [1, 1, 0, 1, 0] (codeOf f47) [] (RetQ prog [.tmp 4] n0 K)) :=
  loop_rule hJ mixed (b := subC [1, 1, 0, 1, 0, 0] (codeOf f47)) (by kernel_rfl) μ I hI hi
theorem at48 : prog.funcs[48]? = some f48 := by kernel_rfl
theorem body48 : f48.body = some (codeOf f48) := by kernel_rfl
theorem e48 {a0 a1 : Value} : W prog J 60 h.length 48 (codeOf f48) (RG.mk (regs [a0, a1]) []) h (RetQ prog [.tmp 4] h.length K) =
(aBox a0 h fun v1 h2 =>
aBox a1 h2 fun v3 h4 =>
aOff v1 0 fun v5 =>
aLoad false 1 v5 h4 fun v6 =>
aOff v3 0 fun v7 =>
aLoad false 1 v7 h4 fun v8 =>
aBin prog .neq 3 v6 v8 fun v9 =>
cnd v9
(cnd (Value.bool true)
(cnd (Value.bool true)
(cnd (Value.bool true)
(cnd (Value.bool true)
(retL h.length K [] [(Value.bool false)] h4)
(Sem J 60 h.length 48 (subC [1, 1, 0, 1, 0] (codeOf f48)) (((((((((((((((((((((((((((((((((((((((((((((RG.mk (regs [a0, a1]) []).put 2 v1).put 3 v3).put 4 (Value.bool false)).put 6 v5).put 7 v6).put 8 v7).put 9 v8).put 10 v9).put 11 v9).put 11 (Value.bool true)).put 12 undef).put 13 undef).put 14 undef).put 15 undef).put 16 undef).put 17 (Value.bool true)).put 18 (Value.bool true)).put 18 (Value.bool true)).put 19 undef).put 20 undef).put 21 undef).put 22 undef).put 23 undef).put 24 (Value.bool true)).put 25 (Value.bool true)).put 25 (Value.bool true)).put 26 undef).put 27 undef).put 28 undef).put 29 undef).put 30 undef).put 31 undef).put 32 (Value.bool true)).put 33 (Value.bool true)).put 33 (Value.bool true)).put 34 undef).put 35 undef).put 36 undef).put 37 undef).put 38 undef).put 39 undef).put 40 undef).put 41 (Value.bool true)).put 5 (vint 0)) h4 (contQ prog J 60 h.length 48 [1, 1, 0, 1, 0] (codeOf f48) [] (RetQ prog [.tmp 4] h.length K))))
(aOff v1 5 fun v10 =>
aLoad false 1 v10 h4 fun v11 =>
aLenS v11 fun v12 =>
aOff v3 5 fun v13 =>
aLoad false 1 v13 h4 fun v14 =>
aLenS v14 fun v15 =>
aBin prog .neq 3 v12 v15 fun v16 =>
cnd v16
(retL h.length K [] [(Value.bool false)] h4)
(Sem J 60 h.length 48 (subC [1, 1, 0, 1, 0] (codeOf f48)) (((((((((((((((((((((((((((((((((((((((((((((RG.mk (regs [a0, a1]) []).put 2 v1).put 3 v3).put 4 (Value.bool false)).put 6 v5).put 7 v6).put 8 v7).put 9 v8).put 10 v9).put 11 v9).put 11 (Value.bool true)).put 12 undef).put 13 undef).put 14 undef).put 15 undef).put 16 undef).put 17 (Value.bool true)).put 18 (Value.bool true)).put 18 (Value.bool true)).put 19 undef).put 20 undef).put 21 undef).put 22 undef).put 23 undef).put 24 (Value.bool true)).put 25 (Value.bool true)).put 25 (Value.bool true)).put 26 undef).put 27 undef).put 28 undef).put 29 undef).put 30 undef).put 31 undef).put 32 (Value.bool true)).put 33 (Value.bool true)).put 33 (Value.bool false)).put 34 v10).put 35 v11).put 36 v12).put 37 v13).put 38 v14).put 39 v15).put 40 v16).put 41 v16).put 5 (vint 0)) h4 (contQ prog J 60 h.length 48 [1, 1, 0, 1, 0] (codeOf f48) [] (RetQ prog [.tmp 4] h.length K)))))
(aOff v1 3 fun v17 =>
aLoad false 1 v17 h4 fun v18 =>
aOff v3 3 fun v19 =>
aLoad false 1 v19 h4 fun v20 =>
Good prog J 47 [v18, v20] h4 fun v21 h22 =>
aUn .not v21 fun v23 =>
cnd v23
(cnd (Value.bool true)
(retL h.length K [] [(Value.bool false)] h22)
(Sem J 60 h.length 48 (subC [1, 1, 0, 1, 0] (codeOf f48)) (((((((((((((((((((((((((((((((((((((((((((((RG.mk (regs [a0, a1]) []).put 2 v1).put 3 v3).put 4 (Value.bool false)).put 6 v5).put 7 v6).put 8 v7).put 9 v8).put 10 v9).put 11 v9).put 11 (Value.bool true)).put 12 undef).put 13 undef).put 14 undef).put 15 undef).put 16 undef).put 17 (Value.bool true)).put 18 (Value.bool true)).put 18 (Value.bool true)).put 19 undef).put 20 undef).put 21 undef).put 22 undef).put 23 undef).put 24 (Value.bool true)).put 25 (Value.bool true)).put 25 (Value.bool false)).put 26 v17).put 27 v18).put 28 v19).put 29 v20).put 30 v21).put 31 v23).put 32 v23).put 33 v23).put 33 (Value.bool true)).put 34 undef).put 35 undef).put 36 undef).put 37 undef).put 38 undef).put 39 undef).put 40 undef).put 41 (Value.bool true)).put 5 (vint 0)) h22 (contQ prog J 60 h.length 48 [1, 1, 0, 1, 0] (codeOf f48) [] (RetQ prog [.tmp 4] h.length K))))
(aOff v1 5 fun v24 =>
aLoad false 1 v24 h22 fun v25 =>
aLenS v25 fun v26 =>
aOff v3 5 fun v27 =>
aLoad false 1 v27 h22 fun v28 =>
aLenS v28 fun v29 =>
aBin prog .neq 3 v26 v29 fun v30 =>
cnd v30
(retL h.length K [] [(Value.bool false)] h22)
(Sem J 60 h.length 48 (subC [1, 1, 0, 1, 0] (codeOf f48)) (((((((((((((((((((((((((((((((((((((((((((((RG.mk (regs [a0, a1]) []).put 2 v1).put 3 v3).put 4 (Value.bool false)).put 6 v5).put 7 v6).put 8 v7).put 9 v8).put 10 v9).put 11 v9).put 11 (Value.bool true)).put 12 undef).put 13 undef).put 14 undef).put 15 undef).put 16 undef).put 17 (Value.bool true)).put 18 (Value.bool true)).put 18 (Value.bool true)).put 19 undef).put 20 undef).put 21 undef).put 22 undef).put 23 undef).put 24 (Value.bool true)).put 25 (Value.bool true)).put 25 (Value.bool false)).put 26 v17).put 27 v18).put 28 v19).put 29 v20).put 30 v21).put 31 v23).put 32 v23).put 33 v23).put 33 (Value.bool false)).put 34 v24).put 35 v25).put 36 v26).put 37 v27).put 38 v28).put 39 v29).put 40 v30).put 41 v30).put 5 (vint 0)) h22 (contQ prog J 60 h.length 48 [1, 1, 0, 1, 0] (codeOf f48) [] (RetQ prog [.tmp 4] h.length K))))))
(aOff v1 4 fun v31 =>
aLoad false 1 v31 h4 fun v32 =>
aOff v3 4 fun v33 =>
aLoad false 1 v33 h4 fun v34 =>
aBin prog .neq 3 v32 v34 fun v35 =>
cnd v35
(cnd (Value.bool true)
(cnd (Value.bool true)
(retL h.length K [] [(Value.bool false)] h4)
(Sem J 60 h.length 48 (subC [1, 1, 0, 1, 0] (codeOf f48)) (((((((((((((((((((((((((((((((((((((((((((((RG.mk (regs [a0, a1]) []).put 2 v1).put 3 v3).put 4 (Value.bool false)).put 6 v5).put 7 v6).put 8 v7).put 9 v8).put 10 v9).put 11 v9).put 11 (Value.bool true)).put 12 undef).put 13 undef).put 14 undef).put 15 undef).put 16 undef).put 17 (Value.bool true)).put 18 (Value.bool true)).put 18 (Value.bool false)).put 19 v31).put 20 v32).put 21 v33).put 22 v34).put 23 v35).put 24 v35).put 25 v35).put 25 (Value.bool true)).put 26 undef).put 27 undef).put 28 undef).put 29 undef).put 30 undef).put 31 undef).put 32 (Value.bool true)).put 33 (Value.bool true)).put 33 (Value.bool true)).put 34 undef).put 35 undef).put 36 undef).put 37 undef).put 38 undef).put 39 undef).put 40 undef).put 41 (Value.bool true)).put 5 (vint 0)) h4 (contQ prog J 60 h.length 48 [1, 1, 0, 1, 0] (codeOf f48) [] (RetQ prog [.tmp 4] h.length K))))
(aOff v1 5 fun v36 =>
aLoad false 1 v36 h4 fun v37 =>
aLenS v37 fun v38 =>
aOff v3 5 fun v39 =>
aLoad false 1 v39 h4 fun v40 =>
aLenS v40 fun v41 =>
aBin prog .neq 3 v38 v41 fun v42 =>
cnd v42
(retL h.length K [] [(Value.bool false)] h4)
(Sem J 60 h.length 48 (subC [1, 1, 0, 1, 0] (codeOf f48)) (((((((((((((((((((((((((((((((((((((((((((((RG.mk (regs [a0, a1]) []).put 2 v1).put 3 v3).put 4 (Value.bool false)).put 6 v5).put 7 v6).put 8 v7).put 9 v8).put 10 v9).put 11 v9).put 11 (Value.bool true)).put 12 undef).put 13 undef).put 14 undef).put 15 undef).put 16 undef).put 17 (Value.bool true)).put 18 (Value.bool true)).put 18 (Value.bool false)).put 19 v31).put 20 v32).put 21 v33).put 22 v34).put 23 v35).put 24 v35).put 25 v35).put 25 (Value.bool true)).put 26 undef).put 27 undef).put 28 undef).put 29 undef).put 30 undef).put 31 undef).put 32 (Value.bool true)).put 33 (Value.bool true)).put 33 (Value.bool false)).put 34 v36).put 35 v37).put 36 v38).put 37 v39).put 38 v40).put 39 v41).put 40 v42).put 41 v42).put 5 (vint 0)) h4 (contQ prog J 60 h.length 48 [1, 1, 0, 1, 0] (codeOf f48) [] (RetQ prog [.tmp 4] h.length K)))))
(aOff v1 3 fun v43 =>
aLoad false 1 v43 h4 fun v44 =>
aOff v3 3 fun v45 =>
aLoad false 1 v45 h4 fun v46 =>
Good prog J 47 [v44, v46] h4 fun v47 h48 =>
aUn .not v47 fun v49 =>
cnd v49
(cnd (Value.bool true)
(retL h.length K [] [(Value.bool false)] h48)
(Sem J 60 h.length 48 (subC [1, 1, 0, 1, 0] (codeOf f48)) (((((((((((((((((((((((((((((((((((((((((((((RG.mk (regs [a0, a1]) []).put 2 v1).put 3 v3).put 4 (Value.bool false)).put 6 v5).put 7 v6).put 8 v7).put 9 v8).put 10 v9).put 11 v9).put 11 (Value.bool true)).put 12 undef).put 13 undef).put 14 undef).put 15 undef).put 16 undef).put 17 (Value.bool true)).put 18 (Value.bool true)).put 18 (Value.bool false)).put 19 v31).put 20 v32).put 21 v33).put 22 v34).put 23 v35).put 24 v35).put 25 v35).put 25 (Value.bool false)).put 26 v43).put 27 v44).put 28 v45).put 29 v46).put 30 v47).put 31 v49).put 32 v49).put 33 v49).put 33 (Value.bool true)).put 34 undef).put 35 undef).put 36 undef).put 37 undef).put 38 undef).put 39 undef).put 40 undef).put 41 (Value.bool true)).put 5 (vint 0)) h48 (contQ prog J 60 h.length 48 [1, 1, 0, 1, 0] (codeOf f48) [] (RetQ prog [.tmp 4] h.length K))))
(aOff v1 5 fun v50 =>
aLoad false 1 v50 h48 fun v51 =>
aLenS v51 fun v52 =>
aOff v3 5 fun v53 =>
aLoad false 1 v53 h48 fun v54 =>
aLenS v54 fun v55 =>
aBin prog .neq 3 v52 v55 fun v56 =>
cnd v56
(retL h.length K [] [(Value.bool false)] h48)
(Sem J 60 h.length 48 (subC [1, 1, 0, 1, 0] (codeOf f48)) (((((((((((((((((((((((((((((((((((((((((((((RG.mk (regs [a0, a1]) []).put 2 v1).put 3 v3).put 4 (Value.bool false)).put 6 v5).put 7 v6).put 8 v7).put 9 v8).put 10 v9).put 11 v9).put 11 (Value.bool true)).put 12 undef).put 13 undef).put 14 undef).put 15 undef).put 16 undef).put 17 (Value.bool true)).put 18 (Value.bool true)).put 18 (Value.bool false)).put 19 v31).put 20 v32).put 21 v33).put 22 v34).put 23 v35).put 24 v35).put 25 v35).put 25 (Value.bool false)).put 26 v43).put 27 v44).put 28 v45).put 29 v46).put 30 v47).put 31 v49).put 32 v49).put 33 v49).put 33 (Value.bool false)).put 34 v50).put 35 v51).put 36 v52).put 37 v53).put 38 v54).put 39 v55).put 40 v56).put 41 v56).put 5 (vint 0)) h48 (contQ prog J 60 h.length 48 [1, 1, 0, 1, 0] (codeOf f48) [] (RetQ prog [.tmp 4] h.length K)))))))
(aOff v1 1 fun v57 =>
aLoad true 2 v57 h4 fun v58 =>
aOff v3 1 fun v59 =>
aLoad true 2 v59 h4 fun v60 =>
aBin prog .neq 38 v58 v60 fun v61 =>
cnd v61
(cnd (Value.bool true)
(cnd (Value.bool true)
(cnd (Value.bool true)
(retL h.length K [] [(Value.bool false)] h4)
(Sem J 60 h.length 48 (subC [1, 1, 0, 1, 0] (codeOf f48)) (((((((((((((((((((((((((((((((((((((((((((((RG.mk (regs [a0, a1]) []).put 2 v1).put 3 v3).put 4 (Value.bool false)).put 6 v5).put 7 v6).put 8 v7).put 9 v8).put 10 v9).put 11 v9).put 11 (Value.bool false)).put 12 v57).put 13 v58).put 14 v59).put 15 v60).put 16 v61).put 17 v61).put 18 v61).put 18 (Value.bool true)).put 19 undef).put 20 undef).put 21 undef).put 22 undef).put 23 undef).put 24 (Value.bool true)).put 25 (Value.bool true)).put 25 (Value.bool true)).put 26 undef).put 27 undef).put 28 undef).put 29 undef).put 30 undef).put 31 undef).put 32 (Value.bool true)).put 33 (Value.bool true)).put 33 (Value.bool true)).put 34 undef).put 35 undef).put 36 undef).put 37 undef).put 38 undef).put 39 undef).put 40 undef).put 41 (Value.bool true)).put 5 (vint 0)) h4 (contQ prog J 60 h.length 48 [1, 1, 0, 1, 0] (codeOf f48) [] (RetQ prog [.tmp 4] h.length K))))
(aOff v1 5 fun v62 =>
aLoad false 1 v62 h4 fun v63 =>
aLenS v63 fun v64 =>
aOff v3 5 fun v65 =>
aLoad false 1 v65 h4 fun v66 =>
aLenS v66 fun v67 =>
aBin prog .neq 3 v64 v67 fun v68 =>
cnd v68
(retL h.length K [] [(Value.bool false)] h4)
(Sem J 60 h.length 48 (subC [1, 1, 0, 1, 0] (codeOf f48)) (((((((((((((((((((((((((((((((((((((((((((((RG.mk (regs [a0, a1]) []).put 2 v1).put 3 v3).put 4 (Value.bool false)).put 6 v5).put 7 v6).put 8 v7).put 9 v8).put 10 v9).put 11 v9).put 11 (Value.bool false)).put 12 v57).put 13 v58).put 14 v59).put 15 v60).put 16 v61).put 17 v61).put 18 v61).put 18 (Value.bool true)).put 19 undef).put 20 undef).put 21 undef).put 22 undef).put 23 undef).put 24 (Value.bool true)).put 25 (Value.bool true)).put 25 (Value.bool true)).put 26 undef).put 27 undef).put 28 undef).put 29 undef).put 30 undef).put 31 undef).put 32 (Value.bool true)).put 33 (Value.bool true)).put 33 (Value.bool false)).put 34 v62).put 35 v63).put 36 v64).put 37 v65).put 38 v66).put 39 v67).put 40 v68).put 41 v68).put 5 (vint 0)) h4 (contQ prog J 60 h.length 48 [1, 1, 0, 1, 0] (codeOf f48) [] (RetQ prog [.tmp 4] h.length K)))))
(aOff v1 3 fun v69 =>
aLoad false 1 v69 h4 fun v70 =>
aOff v3 3 fun v71 =>
aLoad false 1 v71 h4 fun v72 =>
Good prog J 47 [v70, v72] h4 fun v73 h74 =>
aUn .not v73 fun v75 =>
cnd v75
(cnd (Value.bool true)
(retL h.length K [] [(Value.bool false)] h74)
(Sem J 60 h.length 48 (subC [1, 1, 0, 1, 0] (codeOf f48)) (((((((((((((((((((((((((((((((((((((((((((((RG.mk (regs [a0, a1]) []).put 2 v1).put 3 v3).put 4 (Value.bool false)).put 6 v5).put 7 v6).put 8 v7).put 9 v8).put 10 v9).put 11 v9).put 11 (Value.bool false)).put 12 v57).put 13 v58).put 14 v59).put 15 v60).put 16 v61).put 17 v61).put 18 v61).put 18 (Value.bool true)).put 19 undef).put 20 undef).put 21 undef).put 22 undef).put 23 undef).put 24 (Value.bool true)).put 25 (Value.bool true)).put 25 (Value.bool false)).put 26 v69).put 27 v70).put 28 v71).put 29 v72).put 30 v73).put 31 v75).put 32 v75).put 33 v75).put 33 (Value.bool true)).put 34 undef).put 35 undef).put 36 undef).put 37 undef).put 38 undef).put 39 undef).put 40 undef).put 41 (Value.bool true)).put 5 (vint 0)) h74 (contQ prog J 60 h.length 48 [1, 1, 0, 1, 0] (codeOf f48) [] (RetQ prog [.tmp 4] h.length K))))
(aOff v1 5 fun v76 =>
aLoad false 1 v76 h74 fun v77 =>
aLenS v77 fun v78 =>
aOff v3 5 fun v79 =>
aLoad false 1 v79 h74 fun v80 =>
aLenS v80 fun v81 =>
aBin prog .neq 3 v78 v81 fun v82 =>
cnd v82
(retL h.length K [] [(Value.bool false)] h74)
(Sem J 60 h.length 48 (subC [1, 1, 0, 1, 0] (codeOf f48)) (((((((((((((((((((((((((((((((((((((((((((((RG.mk (regs [a0, a1]) []).put 2 v1).put 3 v3).put 4 (Value.bool false)).put 6 v5).put 7 v6).put 8 v7).put 9 v8).put 10 v9).put 11 v9).put 11 (Value.bool false)).put 12 v57).put 13 v58).put 14 v59).put 15 v60).put 16 v61).put 17 v61).put 18 v61).put 18 (Value.bool true)).put 19 undef).put 20 undef).put 21 undef).put 22 undef).put 23 undef).put 24 (Value.bool true)).put 25 (Value.bool true)).put 25 (Value.bool false)).put 26 v69).put 27 v70).put 28 v71).put 29 v72).put 30 v73).put 31 v75).put 32 v75).put 33 v75).put 33 (Value.bool false)).put 34 v76).put 35 v77).put 36 v78).put 37 v79).put 38 v80).put 39 v81).put 40 v82).put 41 v82).put 5 (vint 0)) h74 (contQ prog J 60 h.length 48 [1, 1, 0, 1, 0] (codeOf f48) [] (RetQ prog [.tmp 4] h.length K))))))
(aOff v1 4 fun v83 =>
aLoad false 1 v83 h4 fun v84 =>
aOff v3 4 fun v85 =>
aLoad false 1 v85 h4 fun v86 =>
aBin prog .neq 3 v84 v86 fun v87 =>
cnd v87
(cnd (Value.bool true)
(cnd (Value.bool true)
(retL h.length K [] [(Value.bool false)] h4)
(Sem J 60 h.length 48 (subC [1, 1, 0, 1, 0] (codeOf f48)) (((((((((((((((((((((((((((((((((((((((((((((RG.mk (regs [a0, a1]) []).put 2 v1).put 3 v3).put 4 (Value.bool false)).put 6 v5).put 7 v6).put 8 v7).put 9 v8).put 10 v9).put 11 v9).put 11 (Value.bool false)).put 12 v57).put 13 v58).put 14 v59).put 15 v60).put 16 v61).put 17 v61).put 18 v61).put 18 (Value.bool false)).put 19 v83).put 20 v84).put 21 v85).put 22 v86).put 23 v87).put 24 v87).put 25 v87).put 25 (Value.bool true)).put 26 undef).put 27 undef).put 28 undef).put 29 undef).put 30 undef).put 31 undef).put 32 (Value.bool true)).put 33 (Value.bool true)).put 33 (Value.bool true)).put 34 undef).put 35 undef).put 36 undef).put 37 undef).put 38 undef).put 39 undef).put 40 undef).put 41 (Value.bool true)).put 5 (vint 0)) h4 (contQ prog J 60 h.length 48 [1, 1, 0, 1, 0] (codeOf f48) [] (RetQ prog [.tmp 4] h.length K))))
(aOff v1 5 fun v88 =>
aLoad false 1 v88 h4 fun v89 =>
aLenS v89 fun v90 =>
aOff v3 5 fun v91 =>
aLoad false 1 v91 h4 fun v92 =>
aLenS v92 fun v93 =>
aBin prog .neq 3 v90 v93 fun v94 =>
cnd v94
(retL h.length K [] [(Value.bool false)] h4)
(Sem J 60 h.length 48 (subC [1, 1, 0, 1, 0] (codeOf f48)) (((((((((((((((((((((((((((((((((((((((((((((RG.mk (regs [a0, a1]) []).put 2 v1).put 3 v3).put 4 (Value.bool false)).put 6 v5).put 7 v6).put 8 v7).put 9 v8).put 10 v9).put 11 v9).put 11 (Value.bool false)).put 12 v57).put 13 v58).put 14 v59).put 15 v60).put 16 v61).put 17 v61).put 18 v61).put 18 (Value.bool false)).put 19 v83).put 20 v84).put 21 v85).put 22 v86).put 23 v87).put 24 v87).put 25 v87).put 25 (Value.bool true)).put 26 undef).put 27 undef).put 28 undef).put 29 undef).put 30 undef).put 31 undef).put 32 (Value.bool true)).put 33 (Value.bool true)).put 33 (Value.bool false)).put 34 v88).put 35 v89).put 36 v90).put 37 v91).put 38 v92).put 39 v93).put 40 v94).put 41 v94).put 5 (vint 0)) h4 (contQ prog J 60 h.length 48 [1, 1, 0, 1, 0] (codeOf f48) [] (RetQ prog [.tmp 4] h.length K)))))
(aOff v1 3 fun v95 =>
aLoad false 1 v95 h4 fun v96 =>
aOff v3 3 fun v97 =>
aLoad false 1 v97 h4 fun v98 =>
Good prog J 47 [v96, v98] h4 fun v99 h100 =>
aUn .not v99 fun v101 =>
cnd v101
(cnd (Value.bool true)
(retL h.length K [] [(Value.bool false)] h100)
(Sem J 60 h.length 48 (subC [1, 1, 0, 1, 0] (codeOf f48)) (((((((((((((((((((((((((((((((((((((((((((((RG.mk (regs [a0, a1]) []).put 2 v1).put 3 v3).put 4 (Value.bool false)).put 6 v5).put 7 v6).put 8 v7).put 9 v8).put 10 v9).put 11 v9).put 11 (Value.bool false)).put 12 v57).put 13 v58).put 14 v59).put 15 v60).put 16 v61).put 17 v61).put 18 v61).put 18 (Value.bool false)).put 19 v83).put 20 v84).put 21 v85).put 22 v86).put 23 v87).put 24 v87).put 25 v87).put 25 (Value.bool false)).put 26 v95).put 27 v96).put 28 v97).put 29 v98).put 30 v99).put 31 v101).put 32 v101).put 33 v101).put 33 (Value.bool true)).put 34 undef).put 35 undef).put 36 undef).put 37 undef).put 38 undef).put 39 undef).put 40 undef).put 41 (Value.bool true)).put 5 (vint 0)) h100 (contQ prog J 60 h.length 48 [1, 1, 0, 1, 0] (codeOf f48) [] (RetQ prog [.tmp 4] h.length K))))
(aOff v1 5 fun v102 =>
aLoad false 1 v102 h100 fun v103 =>
aLenS v103 fun v104 =>
aOff v3 5 fun v105 =>
aLoad false 1 v105 h100 fun v106 =>
aLenS v106 fun v107 =>
aBin prog .neq 3 v104 v107 fun v108 =>
cnd v108
(retL h.length K [] [(Value.bool false)] h100)
(Sem J 60 h.length 48 (subC [1, 1, 0, 1, 0] (codeOf f48)) (((((((((((((((((((((((((((((((((((((((((((((RG.mk (regs [a0, a1]) []).put 2 v1).put 3 v3).put 4 (Value.bool false)).put 6 v5).put 7 v6).put 8 v7).put 9 v8).put 10 v9).put 11 v9).put 11 (Value.bool false)).put 12 v57).put 13 v58).put 14 v59).put 15 v60).put 16 v61).put 17 v61).put 18 v61).put 18 (Value.bool false)).put 19 v83).put 20 v84).put 21 v85).put 22 v86).put 23 v87).put 24 v87).put 25 v87).put 25 (Value.bool false)).put 26 v95).put 27 v96).put 28 v97).put 29 v98).put 30 v99).put 31 v101).put 32 v101).put 33 v101).put 33 (Value.bool false)).put 34 v102).put 35 v103).put 36 v104).put 37 v105).put 38 v106).put 39 v107).put 40 v108).put 41 v108).put 5 (vint 0)) h100 (contQ prog J 60 h.length 48 [1, 1, 0, 1, 0] (codeOf f48) [] (RetQ prog [.tmp 4] h.length K)))))))) := by kernel_rfl
theorem g48 (hJ : Closed prog main J) {a0 a1 : Value} (hs : heapOk h → W prog J 60 h.length 48 (codeOf f48) (RG.mk (regs [a0, a1]) []) h (RetQ prog [.tmp 4] h.length K)) : Good prog J 48 [a0, a1] h K :=
  good_of_W hJ mixed at48 body48 (by kernel_rfl) (Nat.le_of_ble_eq_true rfl) hs
-- loop [1, 1, 0, 1, 0, 0]
theorem s48_1 {f : RG} {nx0 : RG → List AObj → Prop} : W prog J 60 n0 48 (subC [1, 1, 0, 1, 0, 0] (codeOf f48)) f h (thenK nx0 (contQ prog J 60 n0 48 [1, 1, 0, 1, 0] (codeOf f48) [] (RetQ prog [.tmp 4] n0 K))) =
(aOff (f.r 2) 5 fun v1 =>
aLoad false 1 v1 h fun v2 =>
aLenS v2 fun v3 =>
aBin prog .lss 3 (f.r 5) v3 fun v4 =>
cnd v4
(aOff (f.r 2) 5 fun v5 =>
aLoad false 1 v5 h fun v6 =>
aIdx 4 v6 (f.r 5) fun v7 =>
aLoad true 4 v7 h fun v8 =>
aOff (f.r 3) 5 fun v9 =>
aLoad false 1 v9 h fun v10 =>
aIdx 4 v10 (f.r 5) fun v11 =>
aLoad true 4 v11 h fun v12 =>
aBin prog .neq 61 v8 v12 fun v13 =>
cnd v13
(retL n0 K f.ds [(Value.bool false)] h)
(aBin prog .add 3 (f.r 5) (vint 1) fun v14 =>
nx0 (((((((((((((((((((f.put 42 (f.r 5)).put 43 v1).put 44 v2).put 45 v3).put 46 v4).put 49 v5).put 50 v6).put 51 (f.r 5)).put 52 v7).put 53 v8).put 54 v9).put 55 v10).put 56 (f.r 5)).put 57 v11).put 58 v12).put 59 v13).put 47 (f.r 5)).put 48 v14).put 5 v14) h))
(retL n0 K f.ds [(Value.bool true)] h)) := by kernel_rfl
theorem l48_1 (hJ : Closed prog main J) {S : Type} (μ : S → Nat) (I : S → RG → List AObj → Prop) (hI : ∀ s f h, I s f h → heapOk h → n0 ≤ h.length → W prog J 60 n0 48 (subC [1, 1, 0, 1, 0, 0] (codeOf f48)) f h (thenK (Nx n0 μ I s) (contQ prog J 60 n0 48 [1, 1, 0, 1, 0] (codeOf f48) [] (RetQ prog [.tmp 4] n0 K))))
  {s : S} {f : RG} (hi : Gets n0 I s f h) : Sem J 60 n0 48 (subC [1, 1, 0, 1, 0] (codeOf f48)) f h (contQ prog J 60 n0 48 [1, 1, 0, 1, 0] (codeOf f48) [] (RetQ prog [.tmp 4] n0 K)) :=
  loop_rule hJ mixed (b := subC [1, 1, 0, 1, 0, 0] (codeOf f48)) (by kernel_rfl) μ I hI hi
theorem at42 : prog.funcs[42]? = some f42 := by kernel_rfl
theorem body42 : f42.body = some (codeOf f42) := by kernel_rfl
theorem e42 {a0 a1 : Value} : W prog J 39 h.length 42 (codeOf f42) (RG.mk (regs [a0, a1]) []) h (RetQ prog [.cell 4 42, .tmp 5] h.length K) =
(aBox a0 h fun v1 h2 =>
aBox a1 h2 fun v3 h4 =>
aAlloc [(vint 0), (vint 0), (vint 0), (Value.slice none 0 0), (vint 0), (Value.slice none 0 0)] h4 fun v5 h6 =>
aLoad true 6 v1 h6 fun v7 =>
Good prog J 51 [v7] h6 fun v8 h9 =>
aBin prog .neq 32 v8 (vint 0) fun v10 =>
cnd v10
(aFill [(vint 0), (vint 0), (vint 0), (Value.slice none 0 0), (vint 0), (Value.slice none 0 0)] [] fun c11 =>
aStore 6 v5 (Value.agg ⟨c11⟩) h9 fun h12 =>
RetQ prog [.cell 4 42, .tmp 5] h.length K .ret (((((((((((((RG.mk (regs [a0, a1]) []).put 2 v1).put 3 v3).put 4 v5).put 5 (vint 0)).put 8 v7).put 9 v8).put 6 v8).put 10 v8).put 11 v10).put 12 (Value.agg ⟨c11⟩)).put 13 v8).put 5 v8) h12)
(aOff v1 5 fun v13 =>
aLoad false 1 v13 h9 fun v14 =>
aLenS v14 fun v15 =>
aBin prog .geq 3 v15 (vint 7) fun v16 =>
cnd v16
(aFill [(vint 0), (vint 0), (vint 0), (Value.slice none 0 0), (vint 0), (Value.slice none 0 0)] [] fun c17 =>
aStore 6 v5 (Value.agg ⟨c17⟩) h9 fun h18 =>
RetQ prog [.cell 4 42, .tmp 5] h.length K .ret ((((((((((((((((RG.mk (regs [a0, a1]) []).put 2 v1).put 3 v3).put 4 v5).put 5 (vint 0)).put 8 v7).put 9 v8).put 6 v8).put 10 v8).put 11 v10).put 14 v13).put 15 v14).put 16 v15).put 17 v16).put 18 (Value.agg ⟨c17⟩)).put 5 (vint 6)) h18)
(aLoad true 4 v3 h9 fun v19 =>
aOff v1 0 fun v20 =>
aLoad false 1 v20 h9 fun v21 =>
Good prog J 77 [v19, v21] h9 fun v22 h23 =>
aBin prog .neq 32 v22 (vint 0) fun v24 =>
cnd v24
(aFill [(vint 0), (vint 0), (vint 0), (Value.slice none 0 0), (vint 0), (Value.slice none 0 0)] [] fun c25 =>
aStore 6 v5 (Value.agg ⟨c25⟩) h23 fun h26 =>
RetQ prog [.cell 4 42, .tmp 5] h.length K .ret ((((((((((((((((((((((((RG.mk (regs [a0, a1]) []).put 2 v1).put 3 v3).put 4 v5).put 5 (vint 0)).put 8 v7).put 9 v8).put 6 v8).put 10 v8).put 11 v10).put 14 v13).put 15 v14).put 16 v15).put 17 v16).put 19 v19).put 20 v20).put 21 v21).put 22 v22).put 7 v22).put 23 v22).put 24 v24).put 25 (Value.agg ⟨c25⟩)).put 26 v22).put 5 v22) h26)
((∃ B, aOff v1 3 fun v27 =>
aLoad false 1 v27 h23 fun v28 =>
RdOk (some B) (ptrBlk v27) ∧ (aOff v1 5 fun v29 =>
aLoad false 1 v29 h23 fun v30 =>
RdOk (some B) (ptrBlk v29) ∧ (aLoad true 4 v3 h23 fun v31 =>
RdOk (some B) (ptrBlk v3) ∧ ((Good prog J 79 [v28] h23 fun v32 h33 =>
SameB (some B) h23 h33 ∧ (aOff v1 3 fun v34 =>
(Good prog J 80 [v30] h33 fun v35 h36 =>
SameB (some B) h23 h36 ∧ (((1 * 4 ≤ 16777216 ∧ 1 ≤ 16777216 ∧ List.length [(vint 0), (vint 0), (vint 0), (vint 0)] = 4) ∧ aFill (zrep [(vint 0), (vint 0), (vint 0), (vint 0)] 1) [(0, 4, v31)] fun c37 =>
aNewS 1 c37 h36 fun v38 h39 =>
SameB (some B) h23 h39 ∧ (((List.length [(vint 0), (vint 0), (vint 0), (vint 0)] = 4 ∧ 0 < 4 ∧ 0 < 32 ∧ 32 ≤ 1024) ∧ aApp 4 v35 v38 h39 fun v40 h41 =>
SameB (some B) h23 h41 ∧ (aStore 1 v34 v32 h41 fun h42 =>
SameB (some B) h23 h42 ∧ (aOff v1 5 fun v43 =>
aStore 1 v43 v40 h42 fun h44 =>
aLoad true 6 v1 h44 fun v45 =>
aStore 6 v5 v45 h44 fun h46 =>
RetQ prog [.cell 4 42, .tmp 5] h.length K .ret ((((((((((((((((((((((((((((((((((RG.mk (regs [a0, a1]) []).put 2 v1).put 3 v3).put 4 v5).put 5 (vint 0)).put 8 v7).put 9 v8).put 6 v8).put 10 v8).put 11 v10).put 14 v13).put 15 v14).put 16 v15).put 17 v16).put 19 v19).put 20 v20).put 21 v21).put 22 v22).put 7 v22).put 23 v22).put 24 v24).put 27 v27).put 28 v28).put 30 v29).put 31 v30).put 33 v31).put 29 v32).put 36 v34).put 32 v35).put 34 v38).put 35 v40).put 37 v43).put 38 v45).put 5 (vint 0)) h46))))))) ∧ (((1 * 4 ≤ 16777216 ∧ 1 ≤ 16777216 ∧ List.length [(vint 0), (vint 0), (vint 0), (vint 0)] = 4) ∧ aFill (zrep [(vint 0), (vint 0), (vint 0), (vint 0)] 1) [(0, 4, v31)] fun c47 =>
aNewS 1 c47 h33 fun v48 h49 =>
SameB (some B) h23 h49 ∧ (Good prog J 80 [v30] h49 fun v50 h51 =>
SameB (some B) h23 h51 ∧ (((List.length [(vint 0), (vint 0), (vint 0), (vint 0)] = 4 ∧ 0 < 4 ∧ 0 < 32 ∧ 32 ≤ 1024) ∧ aApp 4 v50 v48 h51 fun v52 h53 =>
SameB (some B) h23 h53 ∧ (aStore 1 v34 v32 h53 fun h54 =>
SameB (some B) h23 h54 ∧ (aOff v1 5 fun v55 =>
aStore 1 v55 v52 h54 fun h56 =>
aLoad true 6 v1 h56 fun v57 =>
aStore 6 v5 v57 h56 fun h58 =>
RetQ prog [.cell 4 42, .tmp 5] h.length K .ret ((((((((((((((((((((((((((((((((((RG.mk (regs [a0, a1]) []).put 2 v1).put 3 v3).put 4 v5).put 5 (vint 0)).put 8 v7).put 9 v8).put 6 v8).put 10 v8).put 11 v10).put 14 v13).put 15 v14).put 16 v15).put 17 v16).put 19 v19).put 20 v20).put 21 v21).put 22 v22).put 7 v22).put 23 v22).put 24 v24).put 27 v27).put 28 v28).put 30 v29).put 31 v30).put 33 v31).put 29 v32).put 36 v34).put 34 v48).put 32 v50).put 35 v52).put 37 v55).put 38 v57).put 5 (vint 0)) h58))))))))) ∧ (((1 * 4 ≤ 16777216 ∧ 1 ≤ 16777216 ∧ List.length [(vint 0), (vint 0), (vint 0), (vint 0)] = 4) ∧ aFill (zrep [(vint 0), (vint 0), (vint 0), (vint 0)] 1) [(0, 4, v31)] fun c59 =>
aNewS 1 c59 h23 fun v60 h61 =>
SameB (some B) h23 h61 ∧ (Good prog J 79 [v28] h61 fun v62 h63 =>
SameB (some B) h23 h63 ∧ (aOff v1 3 fun v64 =>
Good prog J 80 [v30] h63 fun v65 h66 =>
SameB (some B) h23 h66 ∧ (((List.length [(vint 0), (vint 0), (vint 0), (vint 0)] = 4 ∧ 0 < 4 ∧ 0 < 32 ∧ 32 ≤ 1024) ∧ aApp 4 v65 v60 h66 fun v67 h68 =>
SameB (some B) h23 h68 ∧ (aStore 1 v64 v62 h68 fun h69 =>
SameB (some B) h23 h69 ∧ (aOff v1 5 fun v70 =>
aStore 1 v70 v67 h69 fun h71 =>
aLoad true 6 v1 h71 fun v72 =>
aStore 6 v5 v72 h71 fun h73 =>
RetQ prog [.cell 4 42, .tmp 5] h.length K .ret ((((((((((((((((((((((((((((((((((RG.mk (regs [a0, a1]) []).put 2 v1).put 3 v3).put 4 v5).put 5 (vint 0)).put 8 v7).put 9 v8).put 6 v8).put 10 v8).put 11 v10).put 14 v13).put 15 v14).put 16 v15).put 17 v16).put 19 v19).put 20 v20).put 21 v21).put 22 v22).put 7 v22).put 23 v22).put 24 v24).put 27 v27).put 28 v28).put 30 v29).put 31 v30).put 33 v31).put 34 v60).put 29 v62).put 36 v64).put 32 v65).put 35 v67).put 37 v70).put 38 v72).put 5 (vint 0)) h73)))))))))))))))) := by kernel_rfl
theorem g42 (hJ : Closed prog main J) {a0 a1 : Value} (hs : heapOk h → W prog J 39 h.length 42 (codeOf f42) (RG.mk (regs [a0, a1]) []) h (RetQ prog [.cell 4 42, .tmp 5] h.length K)) : Good prog J 42 [a0, a1] h K :=
  good_of_W hJ mixed at42 body42 (by kernel_rfl) (Nat.le_of_ble_eq_true rfl) hs
theorem at79 : prog.funcs[79]? = some f79 := by kernel_rfl
theorem body79 : f79.body = some (codeOf f79) := by kernel_rfl
theorem e79 {a0 : Value} : W prog J 8 h.length 79 (codeOf f79) (RG.mk (regs [a0]) []) h (RetQ prog [.tmp 2] h.length K) =
(aBin prog .eql 39 a0 (Value.slice none 0 0) fun v1 =>
cnd v1
(retL h.length K [] [(Value.slice none 0 0)] h)
(((0 * 2 ≤ 16777216 ∧ 0 ≤ 16777216 ∧ List.length [(vint 0), (vint 0)] = 2) ∧ aFill (zrep [(vint 0), (vint 0)] 0) [] fun c2 =>
aNewS 0 c2 h fun v3 h4 =>
((List.length [(vint 0), (vint 0)] = 2 ∧ 0 < 2 ∧ 0 < 16 ∧ 16 ≤ 1024) ∧ aApp 2 v3 a0 h4 fun v5 h6 =>
retL h.length K [] [v5] h6)))) := by kernel_rfl
theorem g79 (hJ : Closed prog main J) {a0 : Value} (hs : heapOk h → W prog J 8 h.length 79 (codeOf f79) (RG.mk (regs [a0]) []) h (RetQ prog [.tmp 2] h.length K)) : Good prog J 79 [a0] h K :=
  good_of_W hJ mixed at79 body79 (by kernel_rfl) (Nat.le_of_ble_eq_true rfl) hs
theorem at80 : prog.funcs[80]? = some f80 := by kernel_rfl
theorem body80 : f80.body = some (codeOf f80) := by kernel_rfl
theorem e80 {a0 : Value} : W prog J 8 h.length 80 (codeOf f80) (RG.mk (regs [a0]) []) h (RetQ prog [.tmp 2] h.length K) =
(aBin prog .eql 40 a0 (Value.slice none 0 0) fun v1 =>
cnd v1
(retL h.length K [] [(Value.slice none 0 0)] h)
(((0 * 4 ≤ 16777216 ∧ 0 ≤ 16777216 ∧ List.length [(vint 0), (vint 0), (vint 0), (vint 0)] = 4) ∧ aFill (zrep [(vint 0), (vint 0), (vint 0), (vint 0)] 0) [] fun c2 =>
aNewS 0 c2 h fun v3 h4 =>
((List.length [(vint 0), (vint 0), (vint 0), (vint 0)] = 4 ∧ 0 < 4 ∧ 0 < 32 ∧ 32 ≤ 1024) ∧ aApp 4 v3 a0 h4 fun v5 h6 =>
retL h.length K [] [v5] h6)))) := by kernel_rfl
theorem g80 (hJ : Closed prog main J) {a0 : Value} (hs : heapOk h → W prog J 8 h.length 80 (codeOf f80) (RG.mk (regs [a0]) []) h (RetQ prog [.tmp 2] h.length K)) : Good prog J 80 [a0] h K :=
  good_of_W hJ mixed at80 body80 (by kernel_rfl) (Nat.le_of_ble_eq_true rfl) hs
end
end Go.Proofs.Ytdgpacdknpahnaa

/- Printed by program: the forms to which the bodies of some functions come down. No conditions. -/
namespace Go.Proofs.Ytdgpacdknpahnaa
open Go.Conc Go.Proofs.Try
set_option maxRecDepth 100000
set_option linter.unusedVariables false
section
variable {main : Bool} {J : JT} {n0 : Nat} {h : List AObj} {K : Value → List AObj → Prop}
theorem at39 : prog.funcs[39]? = some f39 := by kernel_rfl
theorem body39 : f39.body = some (codeOf f39) := by kernel_rfl
theorem e39 {a0 a1 : Value} : W prog J 17 h.length 39 (codeOf f39) (RG.mk (regs [a0, a1]) []) h (RetQ prog [.tmp 4] h.length K) =
(aBox a0 h fun v1 h2 =>
aBox a1 h2 fun v3 h4 =>
aOff v1 0 fun v5 =>
aLoad false 1 v5 h4 fun v6 =>
aOff v3 0 fun v7 =>
aLoad false 1 v7 h4 fun v8 =>
aBin prog .leq 3 v6 v8 fun v9 =>
cnd v9
(aOff v3 1 fun v10 =>
aLoad false 1 v10 h4 fun v11 =>
aOff v1 1 fun v12 =>
aLoad false 1 v12 h4 fun v13 =>
aBin prog .leq 3 v11 v13 fun v14 =>
retL h.length K [] [v14] h4)
(retL h.length K [] [(Value.bool false)] h4)) := by kernel_rfl
theorem g39 (hJ : Closed prog main J) {a0 a1 : Value} (hs : heapOk h → W prog J 17 h.length 39 (codeOf f39) (RG.mk (regs [a0, a1]) []) h (RetQ prog [.tmp 4] h.length K)) : Good prog J 39 [a0, a1] h K :=
  good_of_W hJ mixed at39 body39 (by kernel_rfl) (Nat.le_of_ble_eq_true rfl) hs
end
end Go.Proofs.Ytdgpacdknpahnaa
