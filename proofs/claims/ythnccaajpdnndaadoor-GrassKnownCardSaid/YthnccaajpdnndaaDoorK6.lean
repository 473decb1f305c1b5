/- The card of GrassKnown: it answers true, and what its row lists is tied to the program's text. -/
import Derived.Test.YthnccaajpdnndaaDoorK2
import Derived.Test.YthnccaajpdnndaaDoorK5
import Derived.Test.YthnccaajpdnndaaDoorK3
import Derived.Test.YthnccaajpdnndaaDoorK4
import Derived.LaidLaws
import Derived.LaidHandle
import Derived.Deep.DeepLaidRun
import Derived.Test.YthnccaajpdnndaaDoorTie
import Derived.Test.YthnccaajpdnndaaDoorCards
import Derived.SevenTiedAt
namespace Go.Proofs.YthnccaajpdnndaaDoor
open Go.Conc Go.Proofs.Tryd
set_option maxRecDepth 100000
set_option maxHeartbeats 4000000
set_option linter.unusedVariables false
section
variable {main : Bool} {J : JT} {n0 : Nat} {h : List AObj} {K : Value → List AObj → Prop}
theorem at3 : prog.funcs[3]? = some f3 := by kernel_rfl
theorem body3 : f3.body = some (codeOf f3) := by kernel_rfl
def pl3 : Plans := [(27, false, .take 2 (.take 3 (.take 4 (.take 5 (.take 6 (.take 7 (.take 8 (.take 9 (.last 0 true (.last 1 true (.last 10 false (.take 11 (.take 12 (.take 13 (.take 14 (.take 15 (.fin)))))))))))))))))]
def ct3 : Cuts := .bin (.go) (.bin (.go) (.bin (.go) (.bin (.bin (.go) (.cut (.go))) (.bin (.go) (.bin (.go) (.bin (.bin (.go) (.cut (.go))) (.bin (.go) (.bin (.go) (.bin (.go) (.bin (.go) (.bin (.go) (.bin (.go) (.bin (.bin (.go) (.cut (.go))) (.bin (.go) (.bin (.go) (.bin (.go) (.bin (.go) (.bin (.bin (.go) (.cut (.go))) (.bin (.go) (.bin (.bin (.go) (.un (.un (.bin (.go) (.bin (.un (.bin (.go) (.bin (.go) (.cut (.go))))) (.go)))))) (.bin (.go) (.bin (.go) (.bin (.go) (.bin (.go) (.bin (.go) (.bin (.bin (.go) (.cut (.go))) (.go)))))))))))))))))))))))))))
theorem pok3 : plansOk prog pl3 (codeOf f3) = true := by kernel_rfl
theorem e3 : W prog J 359 h.length 3 (codeOf f3) (RG.mk (regs []) []) h (RetQ prog [.tmp 0] h.length K) =
(Good prog J 4 [] h fun v1 h2 =>
 Good prog J 4 [] h2 fun v3 h4 =>
 aAlloc [(vint 0), (vint 0), (vint 0), (vint 0), (vint 0), (vint 0)] h4 fun v5 h6 =>
 aAlloc [(vint 0), (vint 0), (vint 0), (vint 0), (vint 0), (vint 0)] h6 fun v7 h8 =>
 aStore 6 v5 v1 h8 fun h9 =>
 aStore 6 v7 v3 h9 fun h10 =>
 aOff v5 0 fun v11 =>
 aStore 1 v11 (vint 21) h10 fun h12 =>
 aOff v7 3 fun v13 =>
 aStore 1 v13 (vint 0) h12 fun h14 =>
 Good prog J 5 [] h14 fun v15 h16 =>
 aUn .not v15 fun v17 =>
 cnd v17
(Hold (W prog J 359 h.length 3 (subC [1, 1, 1, 0, 1] (codeOf f3)) (RG.p (RG.p (RG.p (RG.p (RG.p (RG.p (RG.p (RG.p (RG.p (RG.p (RG.p (RG.p (RG.p (RG.p (RG.p (RG.p (RG.p (RG.p (RG.p (RG.p (RG.p (RG.p (RG.p (RG.p (RG.p (RG.p (RG.p (RG.mk (regs []) []) 0 (Value.bool false)) 28 v1) 29 v3) 1 v5) 2 v7) 30 v11) 31 v13) 32 v15) 33 v17) 34 v17) 34 (Value.bool true)) 35 undef) 36 undef) 37 undef) 38 (Value.bool true)) 39 (Value.bool true)) 39 (Value.bool true)) 40 undef) 41 undef) 42 undef) 43 (Value.bool true)) 44 (Value.bool true)) 44 (Value.bool true)) 45 undef) 46 undef) 47 undef) 48 (Value.bool true)) h16 (contX pl3 prog J 359 h.length 3 ct3 [1, 1, 1, 0, 1] (codeOf f3) [] (RetQ prog [.tmp 0] h.length K))))
(Good prog J 4 [] h16 fun v18 h19 =>
 Good prog J 6 [v18] h19 fun v20 h21 =>
 aBin prog .neq 26 v20 (vint 0) fun v22 =>
 cnd v22
(Hold (W prog J 359 h.length 3 (subC [1, 1, 1, 0, 1] (codeOf f3)) (RG.p (RG.p (RG.p (RG.p (RG.p (RG.p (RG.p (RG.p (RG.p (RG.p (RG.p (RG.p (RG.p (RG.p (RG.p (RG.p (RG.p (RG.p (RG.p (RG.p (RG.p (RG.p (RG.p (RG.p (RG.p (RG.p (RG.p (RG.mk (regs []) []) 0 (Value.bool false)) 28 v1) 29 v3) 1 v5) 2 v7) 30 v11) 31 v13) 32 v15) 33 v17) 34 v17) 34 (Value.bool false)) 35 v18) 36 v20) 37 v22) 38 v22) 39 v22) 39 (Value.bool true)) 40 undef) 41 undef) 42 undef) 43 (Value.bool true)) 44 (Value.bool true)) 44 (Value.bool true)) 45 undef) 46 undef) 47 undef) 48 (Value.bool true)) h21 (contX pl3 prog J 359 h.length 3 ct3 [1, 1, 1, 0, 1] (codeOf f3) [] (RetQ prog [.tmp 0] h.length K))))
(aLoad true 6 v5 h21 fun v23 =>
 Good prog J 6 [v23] h21 fun v24 h25 =>
 aBin prog .neq 26 v24 (vint 1) fun v26 =>
 cnd v26
(Hold (W prog J 359 h.length 3 (subC [1, 1, 1, 0, 1] (codeOf f3)) (RG.p (RG.p (RG.p (RG.p (RG.p (RG.p (RG.p (RG.p (RG.p (RG.p (RG.p (RG.p (RG.p (RG.p (RG.p (RG.p (RG.p (RG.p (RG.p (RG.p (RG.p (RG.p (RG.p (RG.p (RG.p (RG.p (RG.p (RG.mk (regs []) []) 0 (Value.bool false)) 28 v1) 29 v3) 1 v5) 2 v7) 30 v11) 31 v13) 32 v15) 33 v17) 34 v17) 34 (Value.bool false)) 35 v18) 36 v20) 37 v22) 38 v22) 39 v22) 39 (Value.bool false)) 40 v23) 41 v24) 42 v26) 43 v26) 44 v26) 44 (Value.bool true)) 45 undef) 46 undef) 47 undef) 48 (Value.bool true)) h25 (contX pl3 prog J 359 h.length 3 ct3 [1, 1, 1, 0, 1] (codeOf f3) [] (RetQ prog [.tmp 0] h.length K))))
(aLoad true 6 v7 h25 fun v27 =>
 Good prog J 6 [v27] h25 fun v28 h29 =>
 aBin prog .neq 26 v28 (vint 1) fun v30 =>
 Hold (W prog J 359 h.length 3 (subC [1, 1, 1, 0, 1] (codeOf f3)) (RG.p (RG.p (RG.p (RG.p (RG.p (RG.p (RG.p (RG.p (RG.p (RG.p (RG.p (RG.p (RG.p (RG.p (RG.p (RG.p (RG.p (RG.p (RG.p (RG.p (RG.p (RG.p (RG.p (RG.p (RG.p (RG.p (RG.p (RG.mk (regs []) []) 0 (Value.bool false)) 28 v1) 29 v3) 1 v5) 2 v7) 30 v11) 31 v13) 32 v15) 33 v17) 34 v17) 34 (Value.bool false)) 35 v18) 36 v20) 37 v22) 38 v22) 39 v22) 39 (Value.bool false)) 40 v23) 41 v24) 42 v26) 43 v26) 44 v26) 44 (Value.bool false)) 45 v27) 46 v28) 47 v30) 48 v30) h29 (contX pl3 prog J 359 h.length 3 ct3 [1, 1, 1, 0, 1] (codeOf f3) [] (RetQ prog [.tmp 0] h.length K))))))) := top_eq pok3 ct3 (by kernel_rfl)
theorem g3 (hJ : Closed prog main J) (hs : heapOk h → W prog J 359 h.length 3 (codeOf f3) (RG.mk (regs []) []) h (RetQ prog [.tmp 0] h.length K)) : Good prog J 3 [] h K :=
 good_of_W hJ mixed at3 body3 (by kernel_rfl) (Nat.le_of_ble_eq_true rfl) hs
theorem s3_1 {f : RG} : W prog J 359 n0 3 (subC [1, 1, 1, 0, 1] (codeOf f3)) f h (contX pl3 prog J 359 n0 3 ct3 [1, 1, 1, 0, 1] (codeOf f3) [] (RetQ prog [.tmp 0] n0 K)) =
(cnd (f.r 48)
(retL n0 K f.ds [(Value.bool false)] h)
(Good prog J 8 [] h fun v1 h2 =>
 Good prog J 7 [v1] h2 fun v3 h4 =>
 aExt v3 0 fun v5 =>
 aExt v3 1 fun v6 =>
 aFill [(vint 0), (vint 0), (vint 0)] [(0, 1, (vint 2)), (1, 1, (vint 1)), (2, 1, (vint 2))] fun c7 =>
 Good prog J 7 [(Value.agg ⟨c7⟩)] h4 fun v8 h9 =>
 aExt v8 0 fun v10 =>
 aExt v8 1 fun v11 =>
 aBin prog .neq 26 v6 (vint 0) fun v12 =>
 cnd v12
(Hold (W prog J 359 n0 3 (subC [1, 1, 1, 1, 1, 1, 0, 1] (codeOf f3)) (RG.p (RG.p (RG.p (RG.p (RG.p (RG.p (RG.p (RG.p (RG.p (RG.p (RG.p (RG.p (RG.p (RG.p (RG.p (RG.p (RG.p (RG.p (RG.p (RG.p (RG.p (RG.p (RG.p (RG.p (RG.p (RG.p (RG.p (RG.p (RG.p (RG.p (RG.p (RG.p (RG.p (RG.p (RG.p f 50 v1) 51 v3) 49 v3) 52 v5) 53 v6) 3 v5) 4 v6) 55 (Value.agg ⟨c7⟩)) 56 v8) 54 v8) 57 v10) 58 v11) 5 v10) 6 v11) 59 v6) 60 v12) 61 v12) 61 (Value.bool true)) 62 undef) 63 undef) 64 (Value.bool true)) 65 (Value.bool true)) 65 (Value.bool true)) 66 undef) 67 undef) 68 undef) 69 undef) 70 (Value.bool true)) 71 (Value.bool true)) 71 (Value.bool true)) 72 undef) 73 undef) 74 undef) 75 undef) 76 (Value.bool true)) h9 (contX pl3 prog J 359 n0 3 ct3 [1, 1, 1, 1, 1, 1, 0, 1] (codeOf f3) [] (RetQ prog [.tmp 0] n0 K))))
(aBin prog .neq 26 v11 (vint 0) fun v13 =>
 cnd v13
(Hold (W prog J 359 n0 3 (subC [1, 1, 1, 1, 1, 1, 0, 1] (codeOf f3)) (RG.p (RG.p (RG.p (RG.p (RG.p (RG.p (RG.p (RG.p (RG.p (RG.p (RG.p (RG.p (RG.p (RG.p (RG.p (RG.p (RG.p (RG.p (RG.p (RG.p (RG.p (RG.p (RG.p (RG.p (RG.p (RG.p (RG.p (RG.p (RG.p (RG.p (RG.p (RG.p (RG.p (RG.p (RG.p f 50 v1) 51 v3) 49 v3) 52 v5) 53 v6) 3 v5) 4 v6) 55 (Value.agg ⟨c7⟩)) 56 v8) 54 v8) 57 v10) 58 v11) 5 v10) 6 v11) 59 v6) 60 v12) 61 v12) 61 (Value.bool false)) 62 v11) 63 v13) 64 v13) 65 v13) 65 (Value.bool true)) 66 undef) 67 undef) 68 undef) 69 undef) 70 (Value.bool true)) 71 (Value.bool true)) 71 (Value.bool true)) 72 undef) 73 undef) 74 undef) 75 undef) 76 (Value.bool true)) h9 (contX pl3 prog J 359 n0 3 ct3 [1, 1, 1, 1, 1, 1, 0, 1] (codeOf f3) [] (RetQ prog [.tmp 0] n0 K))))
((((6 * 1 : Nat) ≤ 16777216 ∧ (6 : Nat) ≤ 16777216 ∧ List.length [(Value.string { data := #[] })] = 1) ∧ aFill (zrep [(Value.string { data := #[] })] 6) [(0, 1, (Value.string { data := #[100, 100, 119] })), (1, 1, (Value.string { data := #[100, 119, 100] })), (2, 1, (Value.string { data := #[100, 119, 119] })), (3, 1, (Value.string { data := #[119, 100, 100] })), (4, 1, (Value.string { data := #[119, 100, 119] })), (5, 1, (Value.string { data := #[119, 119, 100] }))] fun c14 =>
 aNewS 6 c14 h9 fun v15 h16 =>
 Good prog J 9 [v5, v15] h16 fun v17 h18 =>
 aUn .not v17 fun v19 =>
 cnd v19
(Hold (W prog J 359 n0 3 (subC [1, 1, 1, 1, 1, 1, 0, 1] (codeOf f3)) (RG.p (RG.p (RG.p (RG.p (RG.p (RG.p (RG.p (RG.p (RG.p (RG.p (RG.p (RG.p (RG.p (RG.p (RG.p (RG.p (RG.p (RG.p (RG.p (RG.p (RG.p (RG.p (RG.p (RG.p (RG.p (RG.p (RG.p (RG.p (RG.p (RG.p (RG.p (RG.p (RG.p (RG.p (RG.p f 50 v1) 51 v3) 49 v3) 52 v5) 53 v6) 3 v5) 4 v6) 55 (Value.agg ⟨c7⟩)) 56 v8) 54 v8) 57 v10) 58 v11) 5 v10) 6 v11) 59 v6) 60 v12) 61 v12) 61 (Value.bool false)) 62 v11) 63 v13) 64 v13) 65 v13) 65 (Value.bool false)) 66 v5) 67 v15) 68 v17) 69 v19) 70 v19) 71 v19) 71 (Value.bool true)) 72 undef) 73 undef) 74 undef) 75 undef) 76 (Value.bool true)) h18 (contX pl3 prog J 359 n0 3 ct3 [1, 1, 1, 1, 1, 1, 0, 1] (codeOf f3) [] (RetQ prog [.tmp 0] n0 K))))
((((3 * 1 : Nat) ≤ 16777216 ∧ (3 : Nat) ≤ 16777216 ∧ List.length [(Value.string { data := #[] })] = 1) ∧ aFill (zrep [(Value.string { data := #[] })] 3) [(0, 1, (Value.string { data := #[100, 119] })), (1, 1, (Value.string { data := #[119, 100] })), (2, 1, (Value.string { data := #[119, 119] }))] fun c20 =>
 aNewS 3 c20 h18 fun v21 h22 =>
 Good prog J 9 [v10, v21] h22 fun v23 h24 =>
 aUn .not v23 fun v25 =>
 Hold (W prog J 359 n0 3 (subC [1, 1, 1, 1, 1, 1, 0, 1] (codeOf f3)) (RG.p (RG.p (RG.p (RG.p (RG.p (RG.p (RG.p (RG.p (RG.p (RG.p (RG.p (RG.p (RG.p (RG.p (RG.p (RG.p (RG.p (RG.p (RG.p (RG.p (RG.p (RG.p (RG.p (RG.p (RG.p (RG.p (RG.p (RG.p (RG.p (RG.p (RG.p (RG.p (RG.p (RG.p (RG.p f 50 v1) 51 v3) 49 v3) 52 v5) 53 v6) 3 v5) 4 v6) 55 (Value.agg ⟨c7⟩)) 56 v8) 54 v8) 57 v10) 58 v11) 5 v10) 6 v11) 59 v6) 60 v12) 61 v12) 61 (Value.bool false)) 62 v11) 63 v13) 64 v13) 65 v13) 65 (Value.bool false)) 66 v5) 67 v15) 68 v17) 69 v19) 70 v19) 71 v19) 71 (Value.bool false)) 72 v10) 73 v21) 74 v23) 75 v25) 76 v25) h24 (contX pl3 prog J 359 n0 3 ct3 [1, 1, 1, 1, 1, 1, 0, 1] (codeOf f3) [] (RetQ prog [.tmp 0] n0 K)))))))))) := sub_eq pok3 ct3 (by kernel_rfl)
theorem s3_2 {f : RG} : W prog J 359 n0 3 (subC [1, 1, 1, 1, 1, 1, 0, 1] (codeOf f3)) f h (contX pl3 prog J 359 n0 3 ct3 [1, 1, 1, 1, 1, 1, 0, 1] (codeOf f3) [] (RetQ prog [.tmp 0] n0 K)) =
(cnd (f.r 76)
(retL n0 K f.ds [(Value.bool false)] h)
((((3 * 1 : Nat) ≤ 16777216 ∧ (3 : Nat) ≤ 16777216 ∧ List.length [(vint 0)] = 1) ∧ aFill (zrep [(vint 0)] 3) [(0, 1, (vint 5)), (1, 1, (vint 5)), (2, 1, (vint 5))] fun c1 =>
 aNewS 3 c1 h fun v2 h3 =>
 Good prog J 4 [] h3 fun v4 h5 =>
 Good prog J 10 [v4, v2, (Value.string { data := #[100, 119, 100] })] h5 fun v6 h7 =>
 aExt v6 0 fun v8 =>
 aExt v6 1 fun v9 =>
 Good prog J 4 [] h7 fun v10 h11 =>
 Good prog J 11 [v10, v2, (Value.string { data := #[100, 119, 100] })] h11 fun v12 h13 =>
 aExt v12 0 fun v14 =>
 aExt v12 1 fun v15 =>
 Good prog J 4 [] h13 fun v16 h17 =>
 Good prog J 12 [v16, v2, (Value.string { data := #[100, 100, 100] })] h17 fun v18 h19 =>
 aExt v18 0 fun v20 =>
 aExt v18 1 fun v21 =>
 Good prog J 4 [] h19 fun v22 h23 =>
 Good prog J 11 [v22, v2, (Value.string { data := #[100, 100, 100] })] h23 fun v24 h25 =>
 aExt v24 0 fun v26 =>
 aExt v24 1 fun v27 =>
 Good prog J 4 [] h25 fun v28 h29 =>
(((4 * 1 : Nat) ≤ 16777216 ∧ (4 : Nat) ≤ 16777216 ∧ List.length [(vint 0)] = 1) ∧ aFill (zrep [(vint 0)] 4) [(0, 1, (vint 10)), (1, 1, (vint 0)), (2, 1, (vint 0)), (3, 1, (vint 0))] fun c30 =>
 aNewS 4 c30 h29 fun v31 h32 =>
 Good prog J 12 [v28, v31, (Value.string { data := #[119, 119, 119, 119] })] h32 fun v33 h34 =>
 aExt v33 0 fun v35 =>
 aExt v33 1 fun v36 =>
 aBin prog .neq 26 v9 (vint 0) fun v37 =>
 cnd v37
(Hold (W prog J 359 n0 3 (subC [1, 1, 1, 1, 1, 1, 1, 1, 1, 1, 1, 1, 1, 0, 1] (codeOf f3)) (RG.p (RG.p (RG.p (RG.p (RG.p (RG.p (RG.p (RG.p (RG.p (RG.p (RG.p (RG.p (RG.p (RG.p (RG.p (RG.p (RG.p (RG.p (RG.p (RG.p (RG.p (RG.p (RG.p (RG.p (RG.p (RG.p (RG.p (RG.p (RG.p (RG.p (RG.p (RG.p (RG.p (RG.p (RG.p (RG.p (RG.p (RG.p (RG.p (RG.p (RG.p (RG.p (RG.p (RG.p (RG.p (RG.p (RG.p (RG.p (RG.p (RG.p (RG.p (RG.p (RG.p (RG.p (RG.p (RG.p (RG.p (RG.p (RG.p (RG.p (RG.p (RG.p (RG.p (RG.p (RG.p (RG.p (RG.p (RG.p (RG.p (RG.p (RG.p (RG.p (RG.p (RG.p (RG.p (RG.p (RG.p (RG.p (RG.p (RG.p (RG.p (RG.p (RG.p (RG.p (RG.p (RG.p (RG.p (RG.p (RG.p (RG.p (RG.p (RG.p (RG.p (RG.p (RG.p (RG.p (RG.p (RG.p f 77 v2) 7 v2) 79 v4) 80 v2) 81 v6) 78 v6) 82 v8) 83 v9) 8 v8) 4 v9) 85 v10) 86 v2) 87 v12) 84 v12) 88 v14) 89 v15) 9 v14) 6 v15) 91 v16) 92 v2) 93 v18) 90 v18) 94 v20) 95 v21) 10 v20) 11 v21) 97 v22) 98 v2) 99 v24) 96 v24) 100 v26) 101 v27) 12 v26) 13 v27) 103 v28) 104 v31) 105 v33) 102 v33) 106 v35) 107 v36) 14 v35) 15 v36) 108 v9) 109 v37) 110 v37) 110 (Value.bool true)) 111 undef) 112 undef) 113 (Value.bool true)) 114 (Value.bool true)) 114 (Value.bool true)) 115 undef) 116 undef) 117 (Value.bool true)) 118 (Value.bool true)) 118 (Value.bool true)) 119 undef) 120 undef) 121 (Value.bool true)) 122 (Value.bool true)) 122 (Value.bool true)) 123 undef) 124 undef) 125 (Value.bool true)) 126 (Value.bool true)) 126 (Value.bool true)) 127 undef) 128 undef) 129 undef) 130 (Value.bool true)) 131 (Value.bool true)) 131 (Value.bool true)) 132 undef) 133 undef) 134 undef) 135 undef) 136 (Value.bool true)) 137 (Value.bool true)) 137 (Value.bool true)) 138 undef) 139 undef) 140 undef) 141 undef) 142 (Value.bool true)) 143 (Value.bool true)) 143 (Value.bool true)) 144 undef) 145 undef) 146 undef) 147 undef) 148 (Value.bool true)) 149 (Value.bool true)) 149 (Value.bool true)) 150 undef) 151 undef) 152 undef) 153 undef) 154 (Value.bool true)) h34 (contX pl3 prog J 359 n0 3 ct3 [1, 1, 1, 1, 1, 1, 1, 1, 1, 1, 1, 1, 1, 0, 1] (codeOf f3) [] (RetQ prog [.tmp 0] n0 K))))
(aBin prog .neq 26 v15 (vint 0) fun v38 =>
 cnd v38
(Hold (W prog J 359 n0 3 (subC [1, 1, 1, 1, 1, 1, 1, 1, 1, 1, 1, 1, 1, 0, 1] (codeOf f3)) (RG.p (RG.p (RG.p (RG.p (RG.p (RG.p (RG.p (RG.p (RG.p (RG.p (RG.p (RG.p (RG.p (RG.p (RG.p (RG.p (RG.p (RG.p (RG.p (RG.p (RG.p (RG.p (RG.p (RG.p (RG.p (RG.p (RG.p (RG.p (RG.p (RG.p (RG.p (RG.p (RG.p (RG.p (RG.p (RG.p (RG.p (RG.p (RG.p (RG.p (RG.p (RG.p (RG.p (RG.p (RG.p (RG.p (RG.p (RG.p (RG.p (RG.p (RG.p (RG.p (RG.p (RG.p (RG.p (RG.p (RG.p (RG.p (RG.p (RG.p (RG.p (RG.p (RG.p (RG.p (RG.p (RG.p (RG.p (RG.p (RG.p (RG.p (RG.p (RG.p (RG.p (RG.p (RG.p (RG.p (RG.p (RG.p (RG.p (RG.p (RG.p (RG.p (RG.p (RG.p (RG.p (RG.p (RG.p (RG.p (RG.p (RG.p (RG.p (RG.p (RG.p (RG.p (RG.p (RG.p (RG.p (RG.p f 77 v2) 7 v2) 79 v4) 80 v2) 81 v6) 78 v6) 82 v8) 83 v9) 8 v8) 4 v9) 85 v10) 86 v2) 87 v12) 84 v12) 88 v14) 89 v15) 9 v14) 6 v15) 91 v16) 92 v2) 93 v18) 90 v18) 94 v20) 95 v21) 10 v20) 11 v21) 97 v22) 98 v2) 99 v24) 96 v24) 100 v26) 101 v27) 12 v26) 13 v27) 103 v28) 104 v31) 105 v33) 102 v33) 106 v35) 107 v36) 14 v35) 15 v36) 108 v9) 109 v37) 110 v37) 110 (Value.bool false)) 111 v15) 112 v38) 113 v38) 114 v38) 114 (Value.bool true)) 115 undef) 116 undef) 117 (Value.bool true)) 118 (Value.bool true)) 118 (Value.bool true)) 119 undef) 120 undef) 121 (Value.bool true)) 122 (Value.bool true)) 122 (Value.bool true)) 123 undef) 124 undef) 125 (Value.bool true)) 126 (Value.bool true)) 126 (Value.bool true)) 127 undef) 128 undef) 129 undef) 130 (Value.bool true)) 131 (Value.bool true)) 131 (Value.bool true)) 132 undef) 133 undef) 134 undef) 135 undef) 136 (Value.bool true)) 137 (Value.bool true)) 137 (Value.bool true)) 138 undef) 139 undef) 140 undef) 141 undef) 142 (Value.bool true)) 143 (Value.bool true)) 143 (Value.bool true)) 144 undef) 145 undef) 146 undef) 147 undef) 148 (Value.bool true)) 149 (Value.bool true)) 149 (Value.bool true)) 150 undef) 151 undef) 152 undef) 153 undef) 154 (Value.bool true)) h34 (contX pl3 prog J 359 n0 3 ct3 [1, 1, 1, 1, 1, 1, 1, 1, 1, 1, 1, 1, 1, 0, 1] (codeOf f3) [] (RetQ prog [.tmp 0] n0 K))))
(aBin prog .neq 26 v21 (vint 0) fun v39 =>
 cnd v39
(Hold (W prog J 359 n0 3 (subC [1, 1, 1, 1, 1, 1, 1, 1, 1, 1, 1, 1, 1, 0, 1] (codeOf f3)) (RG.p (RG.p (RG.p (RG.p (RG.p (RG.p (RG.p (RG.p (RG.p (RG.p (RG.p (RG.p (RG.p (RG.p (RG.p (RG.p (RG.p (RG.p (RG.p (RG.p (RG.p (RG.p (RG.p (RG.p (RG.p (RG.p (RG.p (RG.p (RG.p (RG.p (RG.p (RG.p (RG.p (RG.p (RG.p (RG.p (RG.p (RG.p (RG.p (RG.p (RG.p (RG.p (RG.p (RG.p (RG.p (RG.p (RG.p (RG.p (RG.p (RG.p (RG.p (RG.p (RG.p (RG.p (RG.p (RG.p (RG.p (RG.p (RG.p (RG.p (RG.p (RG.p (RG.p (RG.p (RG.p (RG.p (RG.p (RG.p (RG.p (RG.p (RG.p (RG.p (RG.p (RG.p (RG.p (RG.p (RG.p (RG.p (RG.p (RG.p (RG.p (RG.p (RG.p (RG.p (RG.p (RG.p (RG.p (RG.p (RG.p (RG.p (RG.p (RG.p (RG.p (RG.p (RG.p (RG.p (RG.p (RG.p f 77 v2) 7 v2) 79 v4) 80 v2) 81 v6) 78 v6) 82 v8) 83 v9) 8 v8) 4 v9) 85 v10) 86 v2) 87 v12) 84 v12) 88 v14) 89 v15) 9 v14) 6 v15) 91 v16) 92 v2) 93 v18) 90 v18) 94 v20) 95 v21) 10 v20) 11 v21) 97 v22) 98 v2) 99 v24) 96 v24) 100 v26) 101 v27) 12 v26) 13 v27) 103 v28) 104 v31) 105 v33) 102 v33) 106 v35) 107 v36) 14 v35) 15 v36) 108 v9) 109 v37) 110 v37) 110 (Value.bool false)) 111 v15) 112 v38) 113 v38) 114 v38) 114 (Value.bool false)) 115 v21) 116 v39) 117 v39) 118 v39) 118 (Value.bool true)) 119 undef) 120 undef) 121 (Value.bool true)) 122 (Value.bool true)) 122 (Value.bool true)) 123 undef) 124 undef) 125 (Value.bool true)) 126 (Value.bool true)) 126 (Value.bool true)) 127 undef) 128 undef) 129 undef) 130 (Value.bool true)) 131 (Value.bool true)) 131 (Value.bool true)) 132 undef) 133 undef) 134 undef) 135 undef) 136 (Value.bool true)) 137 (Value.bool true)) 137 (Value.bool true)) 138 undef) 139 undef) 140 undef) 141 undef) 142 (Value.bool true)) 143 (Value.bool true)) 143 (Value.bool true)) 144 undef) 145 undef) 146 undef) 147 undef) 148 (Value.bool true)) 149 (Value.bool true)) 149 (Value.bool true)) 150 undef) 151 undef) 152 undef) 153 undef) 154 (Value.bool true)) h34 (contX pl3 prog J 359 n0 3 ct3 [1, 1, 1, 1, 1, 1, 1, 1, 1, 1, 1, 1, 1, 0, 1] (codeOf f3) [] (RetQ prog [.tmp 0] n0 K))))
(aBin prog .neq 26 v27 (vint 0) fun v40 =>
 cnd v40
(Hold (W prog J 359 n0 3 (subC [1, 1, 1, 1, 1, 1, 1, 1, 1, 1, 1, 1, 1, 0, 1] (codeOf f3)) (RG.p (RG.p (RG.p (RG.p (RG.p (RG.p (RG.p (RG.p (RG.p (RG.p (RG.p (RG.p (RG.p (RG.p (RG.p (RG.p (RG.p (RG.p (RG.p (RG.p (RG.p (RG.p (RG.p (RG.p (RG.p (RG.p (RG.p (RG.p (RG.p (RG.p (RG.p (RG.p (RG.p (RG.p (RG.p (RG.p (RG.p (RG.p (RG.p (RG.p (RG.p (RG.p (RG.p (RG.p (RG.p (RG.p (RG.p (RG.p (RG.p (RG.p (RG.p (RG.p (RG.p (RG.p (RG.p (RG.p (RG.p (RG.p (RG.p (RG.p (RG.p (RG.p (RG.p (RG.p (RG.p (RG.p (RG.p (RG.p (RG.p (RG.p (RG.p (RG.p (RG.p (RG.p (RG.p (RG.p (RG.p (RG.p (RG.p (RG.p (RG.p (RG.p (RG.p (RG.p (RG.p (RG.p (RG.p (RG.p (RG.p (RG.p (RG.p (RG.p (RG.p (RG.p (RG.p (RG.p (RG.p (RG.p f 77 v2) 7 v2) 79 v4) 80 v2) 81 v6) 78 v6) 82 v8) 83 v9) 8 v8) 4 v9) 85 v10) 86 v2) 87 v12) 84 v12) 88 v14) 89 v15) 9 v14) 6 v15) 91 v16) 92 v2) 93 v18) 90 v18) 94 v20) 95 v21) 10 v20) 11 v21) 97 v22) 98 v2) 99 v24) 96 v24) 100 v26) 101 v27) 12 v26) 13 v27) 103 v28) 104 v31) 105 v33) 102 v33) 106 v35) 107 v36) 14 v35) 15 v36) 108 v9) 109 v37) 110 v37) 110 (Value.bool false)) 111 v15) 112 v38) 113 v38) 114 v38) 114 (Value.bool false)) 115 v21) 116 v39) 117 v39) 118 v39) 118 (Value.bool false)) 119 v27) 120 v40) 121 v40) 122 v40) 122 (Value.bool true)) 123 undef) 124 undef) 125 (Value.bool true)) 126 (Value.bool true)) 126 (Value.bool true)) 127 undef) 128 undef) 129 undef) 130 (Value.bool true)) 131 (Value.bool true)) 131 (Value.bool true)) 132 undef) 133 undef) 134 undef) 135 undef) 136 (Value.bool true)) 137 (Value.bool true)) 137 (Value.bool true)) 138 undef) 139 undef) 140 undef) 141 undef) 142 (Value.bool true)) 143 (Value.bool true)) 143 (Value.bool true)) 144 undef) 145 undef) 146 undef) 147 undef) 148 (Value.bool true)) 149 (Value.bool true)) 149 (Value.bool true)) 150 undef) 151 undef) 152 undef) 153 undef) 154 (Value.bool true)) h34 (contX pl3 prog J 359 n0 3 ct3 [1, 1, 1, 1, 1, 1, 1, 1, 1, 1, 1, 1, 1, 0, 1] (codeOf f3) [] (RetQ prog [.tmp 0] n0 K))))
(aBin prog .neq 26 v36 (vint 0) fun v41 =>
 cnd v41
(Hold (W prog J 359 n0 3 (subC [1, 1, 1, 1, 1, 1, 1, 1, 1, 1, 1, 1, 1, 0, 1] (codeOf f3)) (RG.p (RG.p (RG.p (RG.p (RG.p (RG.p (RG.p (RG.p (RG.p (RG.p (RG.p (RG.p (RG.p (RG.p (RG.p (RG.p (RG.p (RG.p (RG.p (RG.p (RG.p (RG.p (RG.p (RG.p (RG.p (RG.p (RG.p (RG.p (RG.p (RG.p (RG.p (RG.p (RG.p (RG.p (RG.p (RG.p (RG.p (RG.p (RG.p (RG.p (RG.p (RG.p (RG.p (RG.p (RG.p (RG.p (RG.p (RG.p (RG.p (RG.p (RG.p (RG.p (RG.p (RG.p (RG.p (RG.p (RG.p (RG.p (RG.p (RG.p (RG.p (RG.p (RG.p (RG.p (RG.p (RG.p (RG.p (RG.p (RG.p (RG.p (RG.p (RG.p (RG.p (RG.p (RG.p (RG.p (RG.p (RG.p (RG.p (RG.p (RG.p (RG.p (RG.p (RG.p (RG.p (RG.p (RG.p (RG.p (RG.p (RG.p (RG.p (RG.p (RG.p (RG.p (RG.p (RG.p (RG.p (RG.p f 77 v2) 7 v2) 79 v4) 80 v2) 81 v6) 78 v6) 82 v8) 83 v9) 8 v8) 4 v9) 85 v10) 86 v2) 87 v12) 84 v12) 88 v14) 89 v15) 9 v14) 6 v15) 91 v16) 92 v2) 93 v18) 90 v18) 94 v20) 95 v21) 10 v20) 11 v21) 97 v22) 98 v2) 99 v24) 96 v24) 100 v26) 101 v27) 12 v26) 13 v27) 103 v28) 104 v31) 105 v33) 102 v33) 106 v35) 107 v36) 14 v35) 15 v36) 108 v9) 109 v37) 110 v37) 110 (Value.bool false)) 111 v15) 112 v38) 113 v38) 114 v38) 114 (Value.bool false)) 115 v21) 116 v39) 117 v39) 118 v39) 118 (Value.bool false)) 119 v27) 120 v40) 121 v40) 122 v40) 122 (Value.bool false)) 123 v36) 124 v41) 125 v41) 126 v41) 126 (Value.bool true)) 127 undef) 128 undef) 129 undef) 130 (Value.bool true)) 131 (Value.bool true)) 131 (Value.bool true)) 132 undef) 133 undef) 134 undef) 135 undef) 136 (Value.bool true)) 137 (Value.bool true)) 137 (Value.bool true)) 138 undef) 139 undef) 140 undef) 141 undef) 142 (Value.bool true)) 143 (Value.bool true)) 143 (Value.bool true)) 144 undef) 145 undef) 146 undef) 147 undef) 148 (Value.bool true)) 149 (Value.bool true)) 149 (Value.bool true)) 150 undef) 151 undef) 152 undef) 153 undef) 154 (Value.bool true)) h34 (contX pl3 prog J 359 n0 3 ct3 [1, 1, 1, 1, 1, 1, 1, 1, 1, 1, 1, 1, 1, 0, 1] (codeOf f3) [] (RetQ prog [.tmp 0] n0 K))))
(aLenS v14 fun v42 =>
 aBin prog .gtr 3 v42 (vint 0) fun v43 =>
 cnd v43
(Hold (W prog J 359 n0 3 (subC [1, 1, 1, 1, 1, 1, 1, 1, 1, 1, 1, 1, 1, 0, 1] (codeOf f3)) (RG.p (RG.p (RG.p (RG.p (RG.p (RG.p (RG.p (RG.p (RG.p (RG.p (RG.p (RG.p (RG.p (RG.p (RG.p (RG.p (RG.p (RG.p (RG.p (RG.p (RG.p (RG.p (RG.p (RG.p (RG.p (RG.p (RG.p (RG.p (RG.p (RG.p (RG.p (RG.p (RG.p (RG.p (RG.p (RG.p (RG.p (RG.p (RG.p (RG.p (RG.p (RG.p (RG.p (RG.p (RG.p (RG.p (RG.p (RG.p (RG.p (RG.p (RG.p (RG.p (RG.p (RG.p (RG.p (RG.p (RG.p (RG.p (RG.p (RG.p (RG.p (RG.p (RG.p (RG.p (RG.p (RG.p (RG.p (RG.p (RG.p (RG.p (RG.p (RG.p (RG.p (RG.p (RG.p (RG.p (RG.p (RG.p (RG.p (RG.p (RG.p (RG.p (RG.p (RG.p (RG.p (RG.p (RG.p (RG.p (RG.p (RG.p (RG.p (RG.p (RG.p (RG.p (RG.p (RG.p (RG.p (RG.p f 77 v2) 7 v2) 79 v4) 80 v2) 81 v6) 78 v6) 82 v8) 83 v9) 8 v8) 4 v9) 85 v10) 86 v2) 87 v12) 84 v12) 88 v14) 89 v15) 9 v14) 6 v15) 91 v16) 92 v2) 93 v18) 90 v18) 94 v20) 95 v21) 10 v20) 11 v21) 97 v22) 98 v2) 99 v24) 96 v24) 100 v26) 101 v27) 12 v26) 13 v27) 103 v28) 104 v31) 105 v33) 102 v33) 106 v35) 107 v36) 14 v35) 15 v36) 108 v9) 109 v37) 110 v37) 110 (Value.bool false)) 111 v15) 112 v38) 113 v38) 114 v38) 114 (Value.bool false)) 115 v21) 116 v39) 117 v39) 118 v39) 118 (Value.bool false)) 119 v27) 120 v40) 121 v40) 122 v40) 122 (Value.bool false)) 123 v36) 124 v41) 125 v41) 126 v41) 126 (Value.bool false)) 127 v14) 128 v42) 129 v43) 130 v43) 131 v43) 131 (Value.bool true)) 132 undef) 133 undef) 134 undef) 135 undef) 136 (Value.bool true)) 137 (Value.bool true)) 137 (Value.bool true)) 138 undef) 139 undef) 140 undef) 141 undef) 142 (Value.bool true)) 143 (Value.bool true)) 143 (Value.bool true)) 144 undef) 145 undef) 146 undef) 147 undef) 148 (Value.bool true)) 149 (Value.bool true)) 149 (Value.bool true)) 150 undef) 151 undef) 152 undef) 153 undef) 154 (Value.bool true)) h34 (contX pl3 prog J 359 n0 3 ct3 [1, 1, 1, 1, 1, 1, 1, 1, 1, 1, 1, 1, 1, 0, 1] (codeOf f3) [] (RetQ prog [.tmp 0] n0 K))))
((((1 * 1 : Nat) ≤ 16777216 ∧ (1 : Nat) ≤ 16777216 ∧ List.length [(vint 0)] = 1) ∧ aFill (zrep [(vint 0)] 1) [(0, 1, (vint 2))] fun c44 =>
 aNewS 1 c44 h34 fun v45 h46 =>
 Good prog J 13 [v8, v45] h46 fun v47 h48 =>
 aUn .not v47 fun v49 =>
 cnd v49
(Hold (W prog J 359 n0 3 (subC [1, 1, 1, 1, 1, 1, 1, 1, 1, 1, 1, 1, 1, 0, 1] (codeOf f3)) (RG.p (RG.p (RG.p (RG.p (RG.p (RG.p (RG.p (RG.p (RG.p (RG.p (RG.p (RG.p (RG.p (RG.p (RG.p (RG.p (RG.p (RG.p (RG.p (RG.p (RG.p (RG.p (RG.p (RG.p (RG.p (RG.p (RG.p (RG.p (RG.p (RG.p (RG.p (RG.p (RG.p (RG.p (RG.p (RG.p (RG.p (RG.p (RG.p (RG.p (RG.p (RG.p (RG.p (RG.p (RG.p (RG.p (RG.p (RG.p (RG.p (RG.p (RG.p (RG.p (RG.p (RG.p (RG.p (RG.p (RG.p (RG.p (RG.p (RG.p (RG.p (RG.p (RG.p (RG.p (RG.p (RG.p (RG.p (RG.p (RG.p (RG.p (RG.p (RG.p (RG.p (RG.p (RG.p (RG.p (RG.p (RG.p (RG.p (RG.p (RG.p (RG.p (RG.p (RG.p (RG.p (RG.p (RG.p (RG.p (RG.p (RG.p (RG.p (RG.p (RG.p (RG.p (RG.p (RG.p (RG.p (RG.p f 77 v2) 7 v2) 79 v4) 80 v2) 81 v6) 78 v6) 82 v8) 83 v9) 8 v8) 4 v9) 85 v10) 86 v2) 87 v12) 84 v12) 88 v14) 89 v15) 9 v14) 6 v15) 91 v16) 92 v2) 93 v18) 90 v18) 94 v20) 95 v21) 10 v20) 11 v21) 97 v22) 98 v2) 99 v24) 96 v24) 100 v26) 101 v27) 12 v26) 13 v27) 103 v28) 104 v31) 105 v33) 102 v33) 106 v35) 107 v36) 14 v35) 15 v36) 108 v9) 109 v37) 110 v37) 110 (Value.bool false)) 111 v15) 112 v38) 113 v38) 114 v38) 114 (Value.bool false)) 115 v21) 116 v39) 117 v39) 118 v39) 118 (Value.bool false)) 119 v27) 120 v40) 121 v40) 122 v40) 122 (Value.bool false)) 123 v36) 124 v41) 125 v41) 126 v41) 126 (Value.bool false)) 127 v14) 128 v42) 129 v43) 130 v43) 131 v43) 131 (Value.bool false)) 132 v8) 133 v45) 134 v47) 135 v49) 136 v49) 137 v49) 137 (Value.bool true)) 138 undef) 139 undef) 140 undef) 141 undef) 142 (Value.bool true)) 143 (Value.bool true)) 143 (Value.bool true)) 144 undef) 145 undef) 146 undef) 147 undef) 148 (Value.bool true)) 149 (Value.bool true)) 149 (Value.bool true)) 150 undef) 151 undef) 152 undef) 153 undef) 154 (Value.bool true)) h48 (contX pl3 prog J 359 n0 3 ct3 [1, 1, 1, 1, 1, 1, 1, 1, 1, 1, 1, 1, 1, 0, 1] (codeOf f3) [] (RetQ prog [.tmp 0] n0 K))))
((((3 * 1 : Nat) ≤ 16777216 ∧ (3 : Nat) ≤ 16777216 ∧ List.length [(vint 0)] = 1) ∧ aFill (zrep [(vint 0)] 3) [(0, 1, (vint 8)), (1, 1, (vint 4)), (2, 1, (vint 0))] fun c50 =>
 aNewS 3 c50 h48 fun v51 h52 =>
 Good prog J 13 [v20, v51] h52 fun v53 h54 =>
 aUn .not v53 fun v55 =>
 cnd v55
(Hold (W prog J 359 n0 3 (subC [1, 1, 1, 1, 1, 1, 1, 1, 1, 1, 1, 1, 1, 0, 1] (codeOf f3)) (RG.p (RG.p (RG.p (RG.p (RG.p (RG.p (RG.p (RG.p (RG.p (RG.p (RG.p (RG.p (RG.p (RG.p (RG.p (RG.p (RG.p (RG.p (RG.p (RG.p (RG.p (RG.p (RG.p (RG.p (RG.p (RG.p (RG.p (RG.p (RG.p (RG.p (RG.p (RG.p (RG.p (RG.p (RG.p (RG.p (RG.p (RG.p (RG.p (RG.p (RG.p (RG.p (RG.p (RG.p (RG.p (RG.p (RG.p (RG.p (RG.p (RG.p (RG.p (RG.p (RG.p (RG.p (RG.p (RG.p (RG.p (RG.p (RG.p (RG.p (RG.p (RG.p (RG.p (RG.p (RG.p (RG.p (RG.p (RG.p (RG.p (RG.p (RG.p (RG.p (RG.p (RG.p (RG.p (RG.p (RG.p (RG.p (RG.p (RG.p (RG.p (RG.p (RG.p (RG.p (RG.p (RG.p (RG.p (RG.p (RG.p (RG.p (RG.p (RG.p (RG.p (RG.p (RG.p (RG.p (RG.p (RG.p f 77 v2) 7 v2) 79 v4) 80 v2) 81 v6) 78 v6) 82 v8) 83 v9) 8 v8) 4 v9) 85 v10) 86 v2) 87 v12) 84 v12) 88 v14) 89 v15) 9 v14) 6 v15) 91 v16) 92 v2) 93 v18) 90 v18) 94 v20) 95 v21) 10 v20) 11 v21) 97 v22) 98 v2) 99 v24) 96 v24) 100 v26) 101 v27) 12 v26) 13 v27) 103 v28) 104 v31) 105 v33) 102 v33) 106 v35) 107 v36) 14 v35) 15 v36) 108 v9) 109 v37) 110 v37) 110 (Value.bool false)) 111 v15) 112 v38) 113 v38) 114 v38) 114 (Value.bool false)) 115 v21) 116 v39) 117 v39) 118 v39) 118 (Value.bool false)) 119 v27) 120 v40) 121 v40) 122 v40) 122 (Value.bool false)) 123 v36) 124 v41) 125 v41) 126 v41) 126 (Value.bool false)) 127 v14) 128 v42) 129 v43) 130 v43) 131 v43) 131 (Value.bool false)) 132 v8) 133 v45) 134 v47) 135 v49) 136 v49) 137 v49) 137 (Value.bool false)) 138 v20) 139 v51) 140 v53) 141 v55) 142 v55) 143 v55) 143 (Value.bool true)) 144 undef) 145 undef) 146 undef) 147 undef) 148 (Value.bool true)) 149 (Value.bool true)) 149 (Value.bool true)) 150 undef) 151 undef) 152 undef) 153 undef) 154 (Value.bool true)) h54 (contX pl3 prog J 359 n0 3 ct3 [1, 1, 1, 1, 1, 1, 1, 1, 1, 1, 1, 1, 1, 0, 1] (codeOf f3) [] (RetQ prog [.tmp 0] n0 K))))
((((1 * 1 : Nat) ≤ 16777216 ∧ (1 : Nat) ≤ 16777216 ∧ List.length [(vint 0)] = 1) ∧ aFill (zrep [(vint 0)] 1) [(0, 1, (vint 2))] fun c56 =>
 aNewS 1 c56 h54 fun v57 h58 =>
 Good prog J 13 [v26, v57] h58 fun v59 h60 =>
 aUn .not v59 fun v61 =>
 cnd v61
(Hold (W prog J 359 n0 3 (subC [1, 1, 1, 1, 1, 1, 1, 1, 1, 1, 1, 1, 1, 0, 1] (codeOf f3)) (RG.p (RG.p (RG.p (RG.p (RG.p (RG.p (RG.p (RG.p (RG.p (RG.p (RG.p (RG.p (RG.p (RG.p (RG.p (RG.p (RG.p (RG.p (RG.p (RG.p (RG.p (RG.p (RG.p (RG.p (RG.p (RG.p (RG.p (RG.p (RG.p (RG.p (RG.p (RG.p (RG.p (RG.p (RG.p (RG.p (RG.p (RG.p (RG.p (RG.p (RG.p (RG.p (RG.p (RG.p (RG.p (RG.p (RG.p (RG.p (RG.p (RG.p (RG.p (RG.p (RG.p (RG.p (RG.p (RG.p (RG.p (RG.p (RG.p (RG.p (RG.p (RG.p (RG.p (RG.p (RG.p (RG.p (RG.p (RG.p (RG.p (RG.p (RG.p (RG.p (RG.p (RG.p (RG.p (RG.p (RG.p (RG.p (RG.p (RG.p (RG.p (RG.p (RG.p (RG.p (RG.p (RG.p (RG.p (RG.p (RG.p (RG.p (RG.p (RG.p (RG.p (RG.p (RG.p (RG.p (RG.p (RG.p f 77 v2) 7 v2) 79 v4) 80 v2) 81 v6) 78 v6) 82 v8) 83 v9) 8 v8) 4 v9) 85 v10) 86 v2) 87 v12) 84 v12) 88 v14) 89 v15) 9 v14) 6 v15) 91 v16) 92 v2) 93 v18) 90 v18) 94 v20) 95 v21) 10 v20) 11 v21) 97 v22) 98 v2) 99 v24) 96 v24) 100 v26) 101 v27) 12 v26) 13 v27) 103 v28) 104 v31) 105 v33) 102 v33) 106 v35) 107 v36) 14 v35) 15 v36) 108 v9) 109 v37) 110 v37) 110 (Value.bool false)) 111 v15) 112 v38) 113 v38) 114 v38) 114 (Value.bool false)) 115 v21) 116 v39) 117 v39) 118 v39) 118 (Value.bool false)) 119 v27) 120 v40) 121 v40) 122 v40) 122 (Value.bool false)) 123 v36) 124 v41) 125 v41) 126 v41) 126 (Value.bool false)) 127 v14) 128 v42) 129 v43) 130 v43) 131 v43) 131 (Value.bool false)) 132 v8) 133 v45) 134 v47) 135 v49) 136 v49) 137 v49) 137 (Value.bool false)) 138 v20) 139 v51) 140 v53) 141 v55) 142 v55) 143 v55) 143 (Value.bool false)) 144 v26) 145 v57) 146 v59) 147 v61) 148 v61) 149 v61) 149 (Value.bool true)) 150 undef) 151 undef) 152 undef) 153 undef) 154 (Value.bool true)) h60 (contX pl3 prog J 359 n0 3 ct3 [1, 1, 1, 1, 1, 1, 1, 1, 1, 1, 1, 1, 1, 0, 1] (codeOf f3) [] (RetQ prog [.tmp 0] n0 K))))
((((4 * 1 : Nat) ≤ 16777216 ∧ (4 : Nat) ≤ 16777216 ∧ List.length [(vint 0)] = 1) ∧ aFill (zrep [(vint 0)] 4) [(0, 1, (vint 2)), (1, 1, (vint 2)), (2, 1, (vint 2)), (3, 1, (vint 6))] fun c62 =>
 aNewS 4 c62 h60 fun v63 h64 =>
 Good prog J 13 [v35, v63] h64 fun v65 h66 =>
 aUn .not v65 fun v67 =>
 Hold (W prog J 359 n0 3 (subC [1, 1, 1, 1, 1, 1, 1, 1, 1, 1, 1, 1, 1, 0, 1] (codeOf f3)) (RG.p (RG.p (RG.p (RG.p (RG.p (RG.p (RG.p (RG.p (RG.p (RG.p (RG.p (RG.p (RG.p (RG.p (RG.p (RG.p (RG.p (RG.p (RG.p (RG.p (RG.p (RG.p (RG.p (RG.p (RG.p (RG.p (RG.p (RG.p (RG.p (RG.p (RG.p (RG.p (RG.p (RG.p (RG.p (RG.p (RG.p (RG.p (RG.p (RG.p (RG.p (RG.p (RG.p (RG.p (RG.p (RG.p (RG.p (RG.p (RG.p (RG.p (RG.p (RG.p (RG.p (RG.p (RG.p (RG.p (RG.p (RG.p (RG.p (RG.p (RG.p (RG.p (RG.p (RG.p (RG.p (RG.p (RG.p (RG.p (RG.p (RG.p (RG.p (RG.p (RG.p (RG.p (RG.p (RG.p (RG.p (RG.p (RG.p (RG.p (RG.p (RG.p (RG.p (RG.p (RG.p (RG.p (RG.p (RG.p (RG.p (RG.p (RG.p (RG.p (RG.p (RG.p (RG.p (RG.p (RG.p (RG.p f 77 v2) 7 v2) 79 v4) 80 v2) 81 v6) 78 v6) 82 v8) 83 v9) 8 v8) 4 v9) 85 v10) 86 v2) 87 v12) 84 v12) 88 v14) 89 v15) 9 v14) 6 v15) 91 v16) 92 v2) 93 v18) 90 v18) 94 v20) 95 v21) 10 v20) 11 v21) 97 v22) 98 v2) 99 v24) 96 v24) 100 v26) 101 v27) 12 v26) 13 v27) 103 v28) 104 v31) 105 v33) 102 v33) 106 v35) 107 v36) 14 v35) 15 v36) 108 v9) 109 v37) 110 v37) 110 (Value.bool false)) 111 v15) 112 v38) 113 v38) 114 v38) 114 (Value.bool false)) 115 v21) 116 v39) 117 v39) 118 v39) 118 (Value.bool false)) 119 v27) 120 v40) 121 v40) 122 v40) 122 (Value.bool false)) 123 v36) 124 v41) 125 v41) 126 v41) 126 (Value.bool false)) 127 v14) 128 v42) 129 v43) 130 v43) 131 v43) 131 (Value.bool false)) 132 v8) 133 v45) 134 v47) 135 v49) 136 v49) 137 v49) 137 (Value.bool false)) 138 v20) 139 v51) 140 v53) 141 v55) 142 v55) 143 v55) 143 (Value.bool false)) 144 v26) 145 v57) 146 v59) 147 v61) 148 v61) 149 v61) 149 (Value.bool false)) 150 v35) 151 v63) 152 v65) 153 v67) 154 v67) h66 (contX pl3 prog J 359 n0 3 ct3 [1, 1, 1, 1, 1, 1, 1, 1, 1, 1, 1, 1, 1, 0, 1] (codeOf f3) [] (RetQ prog [.tmp 0] n0 K)))))))))))))))))))) := sub_eq pok3 ct3 (by kernel_rfl)
theorem s3_3 {f : RG} : W prog J 359 n0 3 (subC [1, 1, 1, 1, 1, 1, 1, 1, 1, 1, 1, 1, 1, 0, 1] (codeOf f3)) f h (contX pl3 prog J 359 n0 3 ct3 [1, 1, 1, 1, 1, 1, 1, 1, 1, 1, 1, 1, 1, 0, 1] (codeOf f3) [] (RetQ prog [.tmp 0] n0 K)) =
(cnd (f.r 154)
(retL n0 K f.ds [(Value.bool false)] h)
(Good prog J 4 [] h fun v1 h2 =>
(((2 * 1 : Nat) ≤ 16777216 ∧ (2 : Nat) ≤ 16777216 ∧ List.length [(vint 0)] = 1) ∧ aFill (zrep [(vint 0)] 2) [(0, 1, (vint 5)), (1, 1, (vint 5))] fun c3 =>
 aNewS 2 c3 h2 fun v4 h5 =>
 Good prog J 12 [v1, v4, (Value.string { data := #[100, 119, 100] })] h5 fun v6 h7 =>
 aExt v6 0 fun v8 =>
 aExt v6 1 fun v9 =>
 Good prog J 4 [] h7 fun v10 h11 =>
 Good prog J 12 [v10, (f.r 7), (Value.string { data := #[100, 120, 100] })] h11 fun v12 h13 =>
 aExt v12 0 fun v14 =>
 aExt v12 1 fun v15 =>
 Good prog J 4 [] h13 fun v16 h17 =>
(((1 * 1 : Nat) ≤ 16777216 ∧ (1 : Nat) ≤ 16777216 ∧ List.length [(vint 0)] = 1) ∧ aFill (zrep [(vint 0)] 1) [(0, 1, (vint 5))] fun c18 =>
 aNewS 1 c18 h17 fun v19 h20 =>
 Good prog J 12 [v16, v19, (Value.string { data := #[] })] h20 fun v21 h22 =>
 aExt v21 0 fun v23 =>
 aExt v21 1 fun v24 =>
 Good prog J 4 [] h22 fun v25 h26 =>
 Good prog J 8 [] h26 fun v27 h28 =>
 Good prog J 14 [v25, (f.r 7), v27] h28 fun v29 h30 =>
 aExt v29 0 fun v31 =>
 aExt v29 1 fun v32 =>
 aBin prog .neq 26 v9 (vint 7) fun v33 =>
 cnd v33
(Hold (W prog J 359 n0 3 (subC [1, 1, 1, 1, 1, 1, 1, 1, 1, 1, 1, 1, 1, 1, 1, 1, 1, 1, 0, 1] (codeOf f3)) (RG.p (RG.p (RG.p (RG.p (RG.p (RG.p (RG.p (RG.p (RG.p (RG.p (RG.p (RG.p (RG.p (RG.p (RG.p (RG.p (RG.p (RG.p (RG.p (RG.p (RG.p (RG.p (RG.p (RG.p (RG.p (RG.p (RG.p (RG.p (RG.p (RG.p (RG.p (RG.p (RG.p (RG.p (RG.p (RG.p (RG.p (RG.p (RG.p (RG.p (RG.p (RG.p (RG.p (RG.p (RG.p (RG.p (RG.p (RG.p (RG.p (RG.p (RG.p (RG.p f 156 v1) 157 v4) 158 v6) 155 v6) 159 v8) 160 v9) 4 v9) 162 v10) 163 (f.r 7)) 164 v12) 161 v12) 165 v14) 166 v15) 6 v15) 168 v16) 169 v19) 170 v21) 167 v21) 171 v23) 172 v24) 11 v24) 174 v25) 175 (f.r 7)) 176 v27) 177 v29) 173 v29) 178 v31) 179 v32) 16 v31) 13 v32) 180 v9) 181 v33) 182 v33) 182 (Value.bool true)) 183 undef) 184 undef) 185 (Value.bool true)) 186 (Value.bool true)) 186 (Value.bool true)) 187 undef) 188 undef) 189 (Value.bool true)) 190 (Value.bool true)) 190 (Value.bool true)) 191 undef) 192 undef) 193 (Value.bool true)) 194 (Value.bool true)) 194 (Value.bool true)) 195 undef) 196 undef) 197 (Value.bool true)) h30 (contX pl3 prog J 359 n0 3 ct3 [1, 1, 1, 1, 1, 1, 1, 1, 1, 1, 1, 1, 1, 1, 1, 1, 1, 1, 0, 1] (codeOf f3) [] (RetQ prog [.tmp 0] n0 K))))
(aBin prog .neq 26 v15 (vint 2) fun v34 =>
 cnd v34
(Hold (W prog J 359 n0 3 (subC [1, 1, 1, 1, 1, 1, 1, 1, 1, 1, 1, 1, 1, 1, 1, 1, 1, 1, 0, 1] (codeOf f3)) (RG.p (RG.p (RG.p (RG.p (RG.p (RG.p (RG.p (RG.p (RG.p (RG.p (RG.p (RG.p (RG.p (RG.p (RG.p (RG.p (RG.p (RG.p (RG.p (RG.p (RG.p (RG.p (RG.p (RG.p (RG.p (RG.p (RG.p (RG.p (RG.p (RG.p (RG.p (RG.p (RG.p (RG.p (RG.p (RG.p (RG.p (RG.p (RG.p (RG.p (RG.p (RG.p (RG.p (RG.p (RG.p (RG.p (RG.p (RG.p (RG.p (RG.p (RG.p (RG.p f 156 v1) 157 v4) 158 v6) 155 v6) 159 v8) 160 v9) 4 v9) 162 v10) 163 (f.r 7)) 164 v12) 161 v12) 165 v14) 166 v15) 6 v15) 168 v16) 169 v19) 170 v21) 167 v21) 171 v23) 172 v24) 11 v24) 174 v25) 175 (f.r 7)) 176 v27) 177 v29) 173 v29) 178 v31) 179 v32) 16 v31) 13 v32) 180 v9) 181 v33) 182 v33) 182 (Value.bool false)) 183 v15) 184 v34) 185 v34) 186 v34) 186 (Value.bool true)) 187 undef) 188 undef) 189 (Value.bool true)) 190 (Value.bool true)) 190 (Value.bool true)) 191 undef) 192 undef) 193 (Value.bool true)) 194 (Value.bool true)) 194 (Value.bool true)) 195 undef) 196 undef) 197 (Value.bool true)) h30 (contX pl3 prog J 359 n0 3 ct3 [1, 1, 1, 1, 1, 1, 1, 1, 1, 1, 1, 1, 1, 1, 1, 1, 1, 1, 0, 1] (codeOf f3) [] (RetQ prog [.tmp 0] n0 K))))
(aBin prog .neq 26 v24 (vint 7) fun v35 =>
 cnd v35
(Hold (W prog J 359 n0 3 (subC [1, 1, 1, 1, 1, 1, 1, 1, 1, 1, 1, 1, 1, 1, 1, 1, 1, 1, 0, 1] (codeOf f3)) (RG.p (RG.p (RG.p (RG.p (RG.p (RG.p (RG.p (RG.p (RG.p (RG.p (RG.p (RG.p (RG.p (RG.p (RG.p (RG.p (RG.p (RG.p (RG.p (RG.p (RG.p (RG.p (RG.p (RG.p (RG.p (RG.p (RG.p (RG.p (RG.p (RG.p (RG.p (RG.p (RG.p (RG.p (RG.p (RG.p (RG.p (RG.p (RG.p (RG.p (RG.p (RG.p (RG.p (RG.p (RG.p (RG.p (RG.p (RG.p (RG.p (RG.p (RG.p (RG.p f 156 v1) 157 v4) 158 v6) 155 v6) 159 v8) 160 v9) 4 v9) 162 v10) 163 (f.r 7)) 164 v12) 161 v12) 165 v14) 166 v15) 6 v15) 168 v16) 169 v19) 170 v21) 167 v21) 171 v23) 172 v24) 11 v24) 174 v25) 175 (f.r 7)) 176 v27) 177 v29) 173 v29) 178 v31) 179 v32) 16 v31) 13 v32) 180 v9) 181 v33) 182 v33) 182 (Value.bool false)) 183 v15) 184 v34) 185 v34) 186 v34) 186 (Value.bool false)) 187 v24) 188 v35) 189 v35) 190 v35) 190 (Value.bool true)) 191 undef) 192 undef) 193 (Value.bool true)) 194 (Value.bool true)) 194 (Value.bool true)) 195 undef) 196 undef) 197 (Value.bool true)) h30 (contX pl3 prog J 359 n0 3 ct3 [1, 1, 1, 1, 1, 1, 1, 1, 1, 1, 1, 1, 1, 1, 1, 1, 1, 1, 0, 1] (codeOf f3) [] (RetQ prog [.tmp 0] n0 K))))
(aBin prog .neq 26 v32 (vint 0) fun v36 =>
 cnd v36
(Hold (W prog J 359 n0 3 (subC [1, 1, 1, 1, 1, 1, 1, 1, 1, 1, 1, 1, 1, 1, 1, 1, 1, 1, 0, 1] (codeOf f3)) (RG.p (RG.p (RG.p (RG.p (RG.p (RG.p (RG.p (RG.p (RG.p (RG.p (RG.p (RG.p (RG.p (RG.p (RG.p (RG.p (RG.p (RG.p (RG.p (RG.p (RG.p (RG.p (RG.p (RG.p (RG.p (RG.p (RG.p (RG.p (RG.p (RG.p (RG.p (RG.p (RG.p (RG.p (RG.p (RG.p (RG.p (RG.p (RG.p (RG.p (RG.p (RG.p (RG.p (RG.p (RG.p (RG.p (RG.p (RG.p (RG.p (RG.p (RG.p (RG.p f 156 v1) 157 v4) 158 v6) 155 v6) 159 v8) 160 v9) 4 v9) 162 v10) 163 (f.r 7)) 164 v12) 161 v12) 165 v14) 166 v15) 6 v15) 168 v16) 169 v19) 170 v21) 167 v21) 171 v23) 172 v24) 11 v24) 174 v25) 175 (f.r 7)) 176 v27) 177 v29) 173 v29) 178 v31) 179 v32) 16 v31) 13 v32) 180 v9) 181 v33) 182 v33) 182 (Value.bool false)) 183 v15) 184 v34) 185 v34) 186 v34) 186 (Value.bool false)) 187 v24) 188 v35) 189 v35) 190 v35) 190 (Value.bool false)) 191 v32) 192 v36) 193 v36) 194 v36) 194 (Value.bool true)) 195 undef) 196 undef) 197 (Value.bool true)) h30 (contX pl3 prog J 359 n0 3 ct3 [1, 1, 1, 1, 1, 1, 1, 1, 1, 1, 1, 1, 1, 1, 1, 1, 1, 1, 0, 1] (codeOf f3) [] (RetQ prog [.tmp 0] n0 K))))
(aBin prog .neq 3 v31 (vint 3) fun v37 =>
 Hold (W prog J 359 n0 3 (subC [1, 1, 1, 1, 1, 1, 1, 1, 1, 1, 1, 1, 1, 1, 1, 1, 1, 1, 0, 1] (codeOf f3)) (RG.p (RG.p (RG.p (RG.p (RG.p (RG.p (RG.p (RG.p (RG.p (RG.p (RG.p (RG.p (RG.p (RG.p (RG.p (RG.p (RG.p (RG.p (RG.p (RG.p (RG.p (RG.p (RG.p (RG.p (RG.p (RG.p (RG.p (RG.p (RG.p (RG.p (RG.p (RG.p (RG.p (RG.p (RG.p (RG.p (RG.p (RG.p (RG.p (RG.p (RG.p (RG.p (RG.p (RG.p (RG.p (RG.p (RG.p (RG.p (RG.p (RG.p (RG.p (RG.p f 156 v1) 157 v4) 158 v6) 155 v6) 159 v8) 160 v9) 4 v9) 162 v10) 163 (f.r 7)) 164 v12) 161 v12) 165 v14) 166 v15) 6 v15) 168 v16) 169 v19) 170 v21) 167 v21) 171 v23) 172 v24) 11 v24) 174 v25) 175 (f.r 7)) 176 v27) 177 v29) 173 v29) 178 v31) 179 v32) 16 v31) 13 v32) 180 v9) 181 v33) 182 v33) 182 (Value.bool false)) 183 v15) 184 v34) 185 v34) 186 v34) 186 (Value.bool false)) 187 v24) 188 v35) 189 v35) 190 v35) 190 (Value.bool false)) 191 v32) 192 v36) 193 v36) 194 v36) 194 (Value.bool false)) 195 v31) 196 v37) 197 v37) h30 (contX pl3 prog J 359 n0 3 ct3 [1, 1, 1, 1, 1, 1, 1, 1, 1, 1, 1, 1, 1, 1, 1, 1, 1, 1, 0, 1] (codeOf f3) [] (RetQ prog [.tmp 0] n0 K))))))))))) := sub_eq pok3 ct3 (by kernel_rfl)
theorem s3_4 {f : RG} : W prog J 359 n0 3 (subC [1, 1, 1, 1, 1, 1, 1, 1, 1, 1, 1, 1, 1, 1, 1, 1, 1, 1, 0, 1] (codeOf f3)) f h (contX pl3 prog J 359 n0 3 ct3 [1, 1, 1, 1, 1, 1, 1, 1, 1, 1, 1, 1, 1, 1, 1, 1, 1, 1, 0, 1] (codeOf f3) [] (RetQ prog [.tmp 0] n0 K)) =
(cnd (f.r 197)
(retL n0 K f.ds [(Value.bool false)] h)
((((2 * 1 : Nat) ≤ 16777216 ∧ (2 : Nat) ≤ 16777216 ∧ List.length [(vint 0)] = 1) ∧ aFill (zrep [(vint 0)] 2) [(0, 1, (vint 0)), (1, 1, (vint 2))] fun c1 =>
 aNewS 2 c1 h fun v2 h3 =>
(((2 * 1 : Nat) ≤ 16777216 ∧ (2 : Nat) ≤ 16777216 ∧ List.length [(vint 0)] = 1) ∧ aFill (zrep [(vint 0)] 2) [(0, 1, (vint 1)), (1, 1, (vint 1))] fun c4 =>
 aNewS 2 c4 h3 fun v5 h6 =>
(((2 * 1 : Nat) ≤ 16777216 ∧ (2 : Nat) ≤ 16777216 ∧ List.length [(vint 0)] = 1) ∧ aFill (zrep [(vint 0)] 2) [(0, 1, (vint 12)), (1, 1, (vint 14))] fun c7 =>
 aNewS 2 c7 h6 fun v8 h9 =>
 Sem J 359 n0 3 (subC [1, 1, 1, 1, 1, 1, 1, 1, 1, 1, 1, 1, 1, 1, 1, 1, 1, 1, 1, 1, 0, 1, 0] (codeOf f3)) (RG.p (RG.p (RG.p (RG.p (RG.p (RG.p (RG.p f 198 v2) 199 v5) 200 v8) 17 v2) 18 v5) 19 v8) 20 (vint 0)) h9 (contX pl3 prog J 359 n0 3 ct3 [1, 1, 1, 1, 1, 1, 1, 1, 1, 1, 1, 1, 1, 1, 1, 1, 1, 1, 1, 1, 0, 1, 0] (codeOf f3) [] (RetQ prog [.tmp 0] n0 K))))))) := sub_eq pok3 ct3 (by kernel_rfl)
theorem s3_5 {f : RG} {nx0 : RG → List AObj → Prop} : W prog J 359 n0 3 (subC [1, 1, 1, 1, 1, 1, 1, 1, 1, 1, 1, 1, 1, 1, 1, 1, 1, 1, 1, 1, 0, 1, 0, 0] (codeOf f3)) f h (thenK nx0 (contX pl3 prog J 359 n0 3 ct3 [1, 1, 1, 1, 1, 1, 1, 1, 1, 1, 1, 1, 1, 1, 1, 1, 1, 1, 1, 1, 0, 1, 0] (codeOf f3) [] (RetQ prog [.tmp 0] n0 K))) =
(aLenS (f.r 17) fun v1 =>
 aBin prog .lss 3 (f.r 20) v1 fun v2 =>
 cnd v2
((∃ B, aIdx 1 (f.r 17) (f.r 20) fun v3 =>
 aLoad false 1 v3 h fun v4 =>
 RdOk (some B) (ptrBlk v3) ∧ (aIdx 1 (f.r 18) (f.r 20) fun v5 =>
 aLoad false 1 v5 h fun v6 =>
 RdOk (some B) (ptrBlk v5) ∧ (Good prog J 4 [] h fun v7 h8 =>
 SameB (some B) h h8 ∧ (Good prog J 8 [] h8 fun v9 h10 =>
 SameB (some B) h h10 ∧ (Good prog J 15 [v7, v9, v4, v6] h10 fun v11 h12 =>
 aExt v11 0 fun v13 =>
 aExt v11 1 fun v14 =>
 aBin prog .neq 26 v14 (vint 0) fun v15 =>
 cnd v15
(Hold (W prog J 359 n0 3 (subC [1, 1, 1, 1, 1, 1, 1, 1, 1, 1, 1, 1, 1, 1, 1, 1, 1, 1, 1, 1, 0, 1, 0, 0, 1, 0, 0, 1, 1] (codeOf f3)) (RG.p (RG.p (RG.p (RG.p (RG.p (RG.p (RG.p (RG.p (RG.p (RG.p (RG.p (RG.p (RG.p (RG.p (RG.p (RG.p (RG.p (RG.p (RG.p (RG.p (RG.p (RG.p (RG.p (RG.p (RG.p (RG.p (RG.p (RG.p (RG.p (RG.p (RG.p f 201 (f.r 20)) 202 (f.r 17)) 203 v1) 204 v2) 210 (f.r 17)) 211 (f.r 20)) 212 v3) 213 v4) 214 (f.r 18)) 215 (f.r 20)) 216 v5) 217 v6) 208 v7) 209 v9) 218 v11) 207 v11) 219 v13) 220 v14) 21 v13) 22 v14) 221 v14) 222 v15) 223 v15) 223 (Value.bool true)) 224 undef) 225 undef) 226 undef) 227 undef) 228 undef) 229 undef) 230 (Value.bool true)) h12 (contX pl3 prog J 359 n0 3 ct3 [1, 1, 1, 1, 1, 1, 1, 1, 1, 1, 1, 1, 1, 1, 1, 1, 1, 1, 1, 1, 0, 1, 0, 0, 1, 0, 0, 1, 1] (codeOf f3) [nx0] (RetQ prog [.tmp 0] n0 K))))
(aIdx 1 (f.r 19) (f.r 20) fun v16 =>
 aLoad false 1 v16 h12 fun v17 =>
 aBin prog .neq 3 v13 v17 fun v18 =>
 Hold (W prog J 359 n0 3 (subC [1, 1, 1, 1, 1, 1, 1, 1, 1, 1, 1, 1, 1, 1, 1, 1, 1, 1, 1, 1, 0, 1, 0, 0, 1, 0, 0, 1, 1] (codeOf f3)) (RG.p (RG.p (RG.p (RG.p (RG.p (RG.p (RG.p (RG.p (RG.p (RG.p (RG.p (RG.p (RG.p (RG.p (RG.p (RG.p (RG.p (RG.p (RG.p (RG.p (RG.p (RG.p (RG.p (RG.p (RG.p (RG.p (RG.p (RG.p (RG.p (RG.p (RG.p f 201 (f.r 20)) 202 (f.r 17)) 203 v1) 204 v2) 210 (f.r 17)) 211 (f.r 20)) 212 v3) 213 v4) 214 (f.r 18)) 215 (f.r 20)) 216 v5) 217 v6) 208 v7) 209 v9) 218 v11) 207 v11) 219 v13) 220 v14) 21 v13) 22 v14) 221 v14) 222 v15) 223 v15) 223 (Value.bool false)) 224 v13) 225 (f.r 19)) 226 (f.r 20)) 227 v16) 228 v17) 229 v18) 230 v18) h12 (contX pl3 prog J 359 n0 3 ct3 [1, 1, 1, 1, 1, 1, 1, 1, 1, 1, 1, 1, 1, 1, 1, 1, 1, 1, 1, 1, 0, 1, 0, 0, 1, 0, 0, 1, 1] (codeOf f3) [nx0] (RetQ prog [.tmp 0] n0 K))))))))))
(Good prog J 4 [] h fun v19 h20 =>
 Good prog J 8 [] h20 fun v21 h22 =>
 Good prog J 16 [v19, v21, (vint 5), (vint 0)] h22 fun v23 h24 =>
 aExt v23 0 fun v25 =>
 aExt v23 1 fun v26 =>
 Good prog J 4 [] h24 fun v27 h28 =>
 Good prog J 8 [] h28 fun v29 h30 =>
 Good prog J 16 [v27, v29, (vint 13), (vint 0)] h30 fun v31 h32 =>
 aExt v31 0 fun v33 =>
 aExt v31 1 fun v34 =>
 Good prog J 4 [] h32 fun v35 h36 =>
(((3 * 1 : Nat) ≤ 16777216 ∧ (3 : Nat) ≤ 16777216 ∧ List.length [(vint 0)] = 1) ∧ aFill (zrep [(vint 0)] 3) [(0, 1, (vint 5)), (1, 1, (vint 5)), (2, 1, (vint 0))] fun c37 =>
 aNewS 3 c37 h36 fun v38 h39 =>
 Good prog J 8 [] h39 fun v40 h41 =>
 Good prog J 17 [v35, v38, v40, (vint 0), (vint 6)] h41 fun v42 h43 =>
 aExt v42 0 fun v44 =>
 aExt v42 1 fun v45 =>
 Good prog J 4 [] h43 fun v46 h47 =>
(((3 * 1 : Nat) ≤ 16777216 ∧ (3 : Nat) ≤ 16777216 ∧ List.length [(vint 0)] = 1) ∧ aFill (zrep [(vint 0)] 3) [(0, 1, (vint 5)), (1, 1, (vint 5)), (2, 1, (vint 0))] fun c48 =>
 aNewS 3 c48 h47 fun v49 h50 =>
 Good prog J 8 [] h50 fun v51 h52 =>
 Good prog J 17 [v46, v49, v51, (vint 1), (vint 5)] h52 fun v53 h54 =>
 aExt v53 0 fun v55 =>
 aExt v53 1 fun v56 =>
 Good prog J 4 [] h54 fun v57 h58 =>
(((3 * 1 : Nat) ≤ 16777216 ∧ (3 : Nat) ≤ 16777216 ∧ List.length [(vint 0)] = 1) ∧ aFill (zrep [(vint 0)] 3) [(0, 1, (vint 5)), (1, 1, (vint 5)), (2, 1, (vint 0))] fun c59 =>
 aNewS 3 c59 h58 fun v60 h61 =>
 Good prog J 8 [] h61 fun v62 h63 =>
 Good prog J 17 [v57, v60, v62, (vint 0), (vint 12)] h63 fun v64 h65 =>
 aExt v64 0 fun v66 =>
 aExt v64 1 fun v67 =>
 aBin prog .neq 26 v26 (vint 0) fun v68 =>
 cnd v68
(Hold (W prog J 359 n0 3 (subC [1, 1, 1, 1, 1, 1, 1, 1, 1, 1, 1, 1, 1, 1, 1, 1, 1, 1, 1, 1, 1, 1, 1, 1, 1, 1, 0, 1] (codeOf f3)) (RG.p (RG.p (RG.p (RG.p (RG.p (RG.p (RG.p (RG.p (RG.p (RG.p (RG.p (RG.p (RG.p (RG.p (RG.p (RG.p (RG.p (RG.p (RG.p (RG.p (RG.p (RG.p (RG.p (RG.p (RG.p (RG.p (RG.p (RG.p (RG.p (RG.p (RG.p (RG.p (RG.p (RG.p (RG.p (RG.p (RG.p (RG.p (RG.p (RG.p (RG.p (RG.p (RG.p (RG.p (RG.p (RG.p (RG.p (RG.p (RG.p (RG.p (RG.p (RG.p (RG.p (RG.p (RG.p (RG.p (RG.p (RG.p (RG.p (RG.p (RG.p (RG.p (RG.p (RG.p (RG.p (RG.p (RG.p (RG.p (RG.p (RG.p (RG.p (RG.p (RG.p (RG.p (RG.p (RG.p (RG.p (RG.p (RG.p (RG.p (RG.p (RG.p (RG.p (RG.p (RG.p (RG.p (RG.p (RG.p f 201 (f.r 20)) 202 (f.r 17)) 203 v1) 204 v2) 232 v19) 233 v21) 234 v23) 231 v23) 235 v25) 236 v26) 23 v25) 4 v26) 238 v27) 239 v29) 240 v31) 237 v31) 241 v33) 242 v34) 24 v33) 6 v34) 244 v35) 245 v38) 246 v40) 247 v42) 243 v42) 248 v44) 249 v45) 25 v44) 11 v45) 251 v46) 252 v49) 253 v51) 254 v53) 250 v53) 255 v55) 256 v56) 26 v55) 13 v56) 258 v57) 259 v60) 260 v62) 261 v64) 257 v64) 262 v66) 263 v67) 15 v67) 264 v26) 265 v68) 266 v68) 266 (Value.bool true)) 267 undef) 268 undef) 269 (Value.bool true)) 270 (Value.bool true)) 270 (Value.bool true)) 271 undef) 272 undef) 273 (Value.bool true)) 274 (Value.bool true)) 274 (Value.bool true)) 275 undef) 276 undef) 277 (Value.bool true)) 278 (Value.bool true)) 278 (Value.bool true)) 279 undef) 280 undef) 281 (Value.bool true)) 282 (Value.bool true)) 282 (Value.bool true)) 283 undef) 284 undef) 285 (Value.bool true)) 286 (Value.bool true)) 286 (Value.bool true)) 287 undef) 288 undef) 289 (Value.bool true)) 290 (Value.bool true)) 290 (Value.bool true)) 291 undef) 292 undef) 293 (Value.bool true)) 294 (Value.bool true)) 294 (Value.bool true)) 295 undef) 296 undef) 297 (Value.bool true)) h65 (contX pl3 prog J 359 n0 3 ct3 [1, 1, 1, 1, 1, 1, 1, 1, 1, 1, 1, 1, 1, 1, 1, 1, 1, 1, 1, 1, 1, 1, 1, 1, 1, 1, 0, 1] (codeOf f3) [] (RetQ prog [.tmp 0] n0 K))))
(aBin prog .neq 26 v34 (vint 0) fun v69 =>
 cnd v69
(Hold (W prog J 359 n0 3 (subC [1, 1, 1, 1, 1, 1, 1, 1, 1, 1, 1, 1, 1, 1, 1, 1, 1, 1, 1, 1, 1, 1, 1, 1, 1, 1, 0, 1] (codeOf f3)) (RG.p (RG.p (RG.p (RG.p (RG.p (RG.p (RG.p (RG.p (RG.p (RG.p (RG.p (RG.p (RG.p (RG.p (RG.p (RG.p (RG.p (RG.p (RG.p (RG.p (RG.p (RG.p (RG.p (RG.p (RG.p (RG.p (RG.p (RG.p (RG.p (RG.p (RG.p (RG.p (RG.p (RG.p (RG.p (RG.p (RG.p (RG.p (RG.p (RG.p (RG.p (RG.p (RG.p (RG.p (RG.p (RG.p (RG.p (RG.p (RG.p (RG.p (RG.p (RG.p (RG.p (RG.p (RG.p (RG.p (RG.p (RG.p (RG.p (RG.p (RG.p (RG.p (RG.p (RG.p (RG.p (RG.p (RG.p (RG.p (RG.p (RG.p (RG.p (RG.p (RG.p (RG.p (RG.p (RG.p (RG.p (RG.p (RG.p (RG.p (RG.p (RG.p (RG.p (RG.p (RG.p (RG.p (RG.p (RG.p f 201 (f.r 20)) 202 (f.r 17)) 203 v1) 204 v2) 232 v19) 233 v21) 234 v23) 231 v23) 235 v25) 236 v26) 23 v25) 4 v26) 238 v27) 239 v29) 240 v31) 237 v31) 241 v33) 242 v34) 24 v33) 6 v34) 244 v35) 245 v38) 246 v40) 247 v42) 243 v42) 248 v44) 249 v45) 25 v44) 11 v45) 251 v46) 252 v49) 253 v51) 254 v53) 250 v53) 255 v55) 256 v56) 26 v55) 13 v56) 258 v57) 259 v60) 260 v62) 261 v64) 257 v64) 262 v66) 263 v67) 15 v67) 264 v26) 265 v68) 266 v68) 266 (Value.bool false)) 267 v34) 268 v69) 269 v69) 270 v69) 270 (Value.bool true)) 271 undef) 272 undef) 273 (Value.bool true)) 274 (Value.bool true)) 274 (Value.bool true)) 275 undef) 276 undef) 277 (Value.bool true)) 278 (Value.bool true)) 278 (Value.bool true)) 279 undef) 280 undef) 281 (Value.bool true)) 282 (Value.bool true)) 282 (Value.bool true)) 283 undef) 284 undef) 285 (Value.bool true)) 286 (Value.bool true)) 286 (Value.bool true)) 287 undef) 288 undef) 289 (Value.bool true)) 290 (Value.bool true)) 290 (Value.bool true)) 291 undef) 292 undef) 293 (Value.bool true)) 294 (Value.bool true)) 294 (Value.bool true)) 295 undef) 296 undef) 297 (Value.bool true)) h65 (contX pl3 prog J 359 n0 3 ct3 [1, 1, 1, 1, 1, 1, 1, 1, 1, 1, 1, 1, 1, 1, 1, 1, 1, 1, 1, 1, 1, 1, 1, 1, 1, 1, 0, 1] (codeOf f3) [] (RetQ prog [.tmp 0] n0 K))))
(aBin prog .neq 26 v45 (vint 0) fun v70 =>
 cnd v70
(Hold (W prog J 359 n0 3 (subC [1, 1, 1, 1, 1, 1, 1, 1, 1, 1, 1, 1, 1, 1, 1, 1, 1, 1, 1, 1, 1, 1, 1, 1, 1, 1, 0, 1] (codeOf f3)) (RG.p (RG.p (RG.p (RG.p (RG.p (RG.p (RG.p (RG.p (RG.p (RG.p (RG.p (RG.p (RG.p (RG.p (RG.p (RG.p (RG.p (RG.p (RG.p (RG.p (RG.p (RG.p (RG.p (RG.p (RG.p (RG.p (RG.p (RG.p (RG.p (RG.p (RG.p (RG.p (RG.p (RG.p (RG.p (RG.p (RG.p (RG.p (RG.p (RG.p (RG.p (RG.p (RG.p (RG.p (RG.p (RG.p (RG.p (RG.p (RG.p (RG.p (RG.p (RG.p (RG.p (RG.p (RG.p (RG.p (RG.p (RG.p (RG.p (RG.p (RG.p (RG.p (RG.p (RG.p (RG.p (RG.p (RG.p (RG.p (RG.p (RG.p (RG.p (RG.p (RG.p (RG.p (RG.p (RG.p (RG.p (RG.p (RG.p (RG.p (RG.p (RG.p (RG.p (RG.p (RG.p (RG.p (RG.p (RG.p f 201 (f.r 20)) 202 (f.r 17)) 203 v1) 204 v2) 232 v19) 233 v21) 234 v23) 231 v23) 235 v25) 236 v26) 23 v25) 4 v26) 238 v27) 239 v29) 240 v31) 237 v31) 241 v33) 242 v34) 24 v33) 6 v34) 244 v35) 245 v38) 246 v40) 247 v42) 243 v42) 248 v44) 249 v45) 25 v44) 11 v45) 251 v46) 252 v49) 253 v51) 254 v53) 250 v53) 255 v55) 256 v56) 26 v55) 13 v56) 258 v57) 259 v60) 260 v62) 261 v64) 257 v64) 262 v66) 263 v67) 15 v67) 264 v26) 265 v68) 266 v68) 266 (Value.bool false)) 267 v34) 268 v69) 269 v69) 270 v69) 270 (Value.bool false)) 271 v45) 272 v70) 273 v70) 274 v70) 274 (Value.bool true)) 275 undef) 276 undef) 277 (Value.bool true)) 278 (Value.bool true)) 278 (Value.bool true)) 279 undef) 280 undef) 281 (Value.bool true)) 282 (Value.bool true)) 282 (Value.bool true)) 283 undef) 284 undef) 285 (Value.bool true)) 286 (Value.bool true)) 286 (Value.bool true)) 287 undef) 288 undef) 289 (Value.bool true)) 290 (Value.bool true)) 290 (Value.bool true)) 291 undef) 292 undef) 293 (Value.bool true)) 294 (Value.bool true)) 294 (Value.bool true)) 295 undef) 296 undef) 297 (Value.bool true)) h65 (contX pl3 prog J 359 n0 3 ct3 [1, 1, 1, 1, 1, 1, 1, 1, 1, 1, 1, 1, 1, 1, 1, 1, 1, 1, 1, 1, 1, 1, 1, 1, 1, 1, 0, 1] (codeOf f3) [] (RetQ prog [.tmp 0] n0 K))))
(aBin prog .neq 26 v56 (vint 0) fun v71 =>
 cnd v71
(Hold (W prog J 359 n0 3 (subC [1, 1, 1, 1, 1, 1, 1, 1, 1, 1, 1, 1, 1, 1, 1, 1, 1, 1, 1, 1, 1, 1, 1, 1, 1, 1, 0, 1] (codeOf f3)) (RG.p (RG.p (RG.p (RG.p (RG.p (RG.p (RG.p (RG.p (RG.p (RG.p (RG.p (RG.p (RG.p (RG.p (RG.p (RG.p (RG.p (RG.p (RG.p (RG.p (RG.p (RG.p (RG.p (RG.p (RG.p (RG.p (RG.p (RG.p (RG.p (RG.p (RG.p (RG.p (RG.p (RG.p (RG.p (RG.p (RG.p (RG.p (RG.p (RG.p (RG.p (RG.p (RG.p (RG.p (RG.p (RG.p (RG.p (RG.p (RG.p (RG.p (RG.p (RG.p (RG.p (RG.p (RG.p (RG.p (RG.p (RG.p (RG.p (RG.p (RG.p (RG.p (RG.p (RG.p (RG.p (RG.p (RG.p (RG.p (RG.p (RG.p (RG.p (RG.p (RG.p (RG.p (RG.p (RG.p (RG.p (RG.p (RG.p (RG.p (RG.p (RG.p (RG.p (RG.p (RG.p (RG.p (RG.p (RG.p f 201 (f.r 20)) 202 (f.r 17)) 203 v1) 204 v2) 232 v19) 233 v21) 234 v23) 231 v23) 235 v25) 236 v26) 23 v25) 4 v26) 238 v27) 239 v29) 240 v31) 237 v31) 241 v33) 242 v34) 24 v33) 6 v34) 244 v35) 245 v38) 246 v40) 247 v42) 243 v42) 248 v44) 249 v45) 25 v44) 11 v45) 251 v46) 252 v49) 253 v51) 254 v53) 250 v53) 255 v55) 256 v56) 26 v55) 13 v56) 258 v57) 259 v60) 260 v62) 261 v64) 257 v64) 262 v66) 263 v67) 15 v67) 264 v26) 265 v68) 266 v68) 266 (Value.bool false)) 267 v34) 268 v69) 269 v69) 270 v69) 270 (Value.bool false)) 271 v45) 272 v70) 273 v70) 274 v70) 274 (Value.bool false)) 275 v56) 276 v71) 277 v71) 278 v71) 278 (Value.bool true)) 279 undef) 280 undef) 281 (Value.bool true)) 282 (Value.bool true)) 282 (Value.bool true)) 283 undef) 284 undef) 285 (Value.bool true)) 286 (Value.bool true)) 286 (Value.bool true)) 287 undef) 288 undef) 289 (Value.bool true)) 290 (Value.bool true)) 290 (Value.bool true)) 291 undef) 292 undef) 293 (Value.bool true)) 294 (Value.bool true)) 294 (Value.bool true)) 295 undef) 296 undef) 297 (Value.bool true)) h65 (contX pl3 prog J 359 n0 3 ct3 [1, 1, 1, 1, 1, 1, 1, 1, 1, 1, 1, 1, 1, 1, 1, 1, 1, 1, 1, 1, 1, 1, 1, 1, 1, 1, 0, 1] (codeOf f3) [] (RetQ prog [.tmp 0] n0 K))))
(aBin prog .neq 26 v67 (vint 11) fun v72 =>
 cnd v72
(Hold (W prog J 359 n0 3 (subC [1, 1, 1, 1, 1, 1, 1, 1, 1, 1, 1, 1, 1, 1, 1, 1, 1, 1, 1, 1, 1, 1, 1, 1, 1, 1, 0, 1] (codeOf f3)) (RG.p (RG.p (RG.p (RG.p (RG.p (RG.p (RG.p (RG.p (RG.p (RG.p (RG.p (RG.p (RG.p (RG.p (RG.p (RG.p (RG.p (RG.p (RG.p (RG.p (RG.p (RG.p (RG.p (RG.p (RG.p (RG.p (RG.p (RG.p (RG.p (RG.p (RG.p (RG.p (RG.p (RG.p (RG.p (RG.p (RG.p (RG.p (RG.p (RG.p (RG.p (RG.p (RG.p (RG.p (RG.p (RG.p (RG.p (RG.p (RG.p (RG.p (RG.p (RG.p (RG.p (RG.p (RG.p (RG.p (RG.p (RG.p (RG.p (RG.p (RG.p (RG.p (RG.p (RG.p (RG.p (RG.p (RG.p (RG.p (RG.p (RG.p (RG.p (RG.p (RG.p (RG.p (RG.p (RG.p (RG.p (RG.p (RG.p (RG.p (RG.p (RG.p (RG.p (RG.p (RG.p (RG.p (RG.p (RG.p f 201 (f.r 20)) 202 (f.r 17)) 203 v1) 204 v2) 232 v19) 233 v21) 234 v23) 231 v23) 235 v25) 236 v26) 23 v25) 4 v26) 238 v27) 239 v29) 240 v31) 237 v31) 241 v33) 242 v34) 24 v33) 6 v34) 244 v35) 245 v38) 246 v40) 247 v42) 243 v42) 248 v44) 249 v45) 25 v44) 11 v45) 251 v46) 252 v49) 253 v51) 254 v53) 250 v53) 255 v55) 256 v56) 26 v55) 13 v56) 258 v57) 259 v60) 260 v62) 261 v64) 257 v64) 262 v66) 263 v67) 15 v67) 264 v26) 265 v68) 266 v68) 266 (Value.bool false)) 267 v34) 268 v69) 269 v69) 270 v69) 270 (Value.bool false)) 271 v45) 272 v70) 273 v70) 274 v70) 274 (Value.bool false)) 275 v56) 276 v71) 277 v71) 278 v71) 278 (Value.bool false)) 279 v67) 280 v72) 281 v72) 282 v72) 282 (Value.bool true)) 283 undef) 284 undef) 285 (Value.bool true)) 286 (Value.bool true)) 286 (Value.bool true)) 287 undef) 288 undef) 289 (Value.bool true)) 290 (Value.bool true)) 290 (Value.bool true)) 291 undef) 292 undef) 293 (Value.bool true)) 294 (Value.bool true)) 294 (Value.bool true)) 295 undef) 296 undef) 297 (Value.bool true)) h65 (contX pl3 prog J 359 n0 3 ct3 [1, 1, 1, 1, 1, 1, 1, 1, 1, 1, 1, 1, 1, 1, 1, 1, 1, 1, 1, 1, 1, 1, 1, 1, 1, 1, 0, 1] (codeOf f3) [] (RetQ prog [.tmp 0] n0 K))))
(aBin prog .neq 3 v25 (vint 2) fun v73 =>
 cnd v73
(Hold (W prog J 359 n0 3 (subC [1, 1, 1, 1, 1, 1, 1, 1, 1, 1, 1, 1, 1, 1, 1, 1, 1, 1, 1, 1, 1, 1, 1, 1, 1, 1, 0, 1] (codeOf f3)) (RG.p (RG.p (RG.p (RG.p (RG.p (RG.p (RG.p (RG.p (RG.p (RG.p (RG.p (RG.p (RG.p (RG.p (RG.p (RG.p (RG.p (RG.p (RG.p (RG.p (RG.p (RG.p (RG.p (RG.p (RG.p (RG.p (RG.p (RG.p (RG.p (RG.p (RG.p (RG.p (RG.p (RG.p (RG.p (RG.p (RG.p (RG.p (RG.p (RG.p (RG.p (RG.p (RG.p (RG.p (RG.p (RG.p (RG.p (RG.p (RG.p (RG.p (RG.p (RG.p (RG.p (RG.p (RG.p (RG.p (RG.p (RG.p (RG.p (RG.p (RG.p (RG.p (RG.p (RG.p (RG.p (RG.p (RG.p (RG.p (RG.p (RG.p (RG.p (RG.p (RG.p (RG.p (RG.p (RG.p (RG.p (RG.p (RG.p (RG.p (RG.p (RG.p (RG.p (RG.p (RG.p (RG.p (RG.p (RG.p f 201 (f.r 20)) 202 (f.r 17)) 203 v1) 204 v2) 232 v19) 233 v21) 234 v23) 231 v23) 235 v25) 236 v26) 23 v25) 4 v26) 238 v27) 239 v29) 240 v31) 237 v31) 241 v33) 242 v34) 24 v33) 6 v34) 244 v35) 245 v38) 246 v40) 247 v42) 243 v42) 248 v44) 249 v45) 25 v44) 11 v45) 251 v46) 252 v49) 253 v51) 254 v53) 250 v53) 255 v55) 256 v56) 26 v55) 13 v56) 258 v57) 259 v60) 260 v62) 261 v64) 257 v64) 262 v66) 263 v67) 15 v67) 264 v26) 265 v68) 266 v68) 266 (Value.bool false)) 267 v34) 268 v69) 269 v69) 270 v69) 270 (Value.bool false)) 271 v45) 272 v70) 273 v70) 274 v70) 274 (Value.bool false)) 275 v56) 276 v71) 277 v71) 278 v71) 278 (Value.bool false)) 279 v67) 280 v72) 281 v72) 282 v72) 282 (Value.bool false)) 283 v25) 284 v73) 285 v73) 286 v73) 286 (Value.bool true)) 287 undef) 288 undef) 289 (Value.bool true)) 290 (Value.bool true)) 290 (Value.bool true)) 291 undef) 292 undef) 293 (Value.bool true)) 294 (Value.bool true)) 294 (Value.bool true)) 295 undef) 296 undef) 297 (Value.bool true)) h65 (contX pl3 prog J 359 n0 3 ct3 [1, 1, 1, 1, 1, 1, 1, 1, 1, 1, 1, 1, 1, 1, 1, 1, 1, 1, 1, 1, 1, 1, 1, 1, 1, 1, 0, 1] (codeOf f3) [] (RetQ prog [.tmp 0] n0 K))))
(aBin prog .neq 3 v33 (vint 0) fun v74 =>
 cnd v74
(Hold (W prog J 359 n0 3 (subC [1, 1, 1, 1, 1, 1, 1, 1, 1, 1, 1, 1, 1, 1, 1, 1, 1, 1, 1, 1, 1, 1, 1, 1, 1, 1, 0, 1] (codeOf f3)) (RG.p (RG.p (RG.p (RG.p (RG.p (RG.p (RG.p (RG.p (RG.p (RG.p (RG.p (RG.p (RG.p (RG.p (RG.p (RG.p (RG.p (RG.p (RG.p (RG.p (RG.p (RG.p (RG.p (RG.p (RG.p (RG.p (RG.p (RG.p (RG.p (RG.p (RG.p (RG.p (RG.p (RG.p (RG.p (RG.p (RG.p (RG.p (RG.p (RG.p (RG.p (RG.p (RG.p (RG.p (RG.p (RG.p (RG.p (RG.p (RG.p (RG.p (RG.p (RG.p (RG.p (RG.p (RG.p (RG.p (RG.p (RG.p (RG.p (RG.p (RG.p (RG.p (RG.p (RG.p (RG.p (RG.p (RG.p (RG.p (RG.p (RG.p (RG.p (RG.p (RG.p (RG.p (RG.p (RG.p (RG.p (RG.p (RG.p (RG.p (RG.p (RG.p (RG.p (RG.p (RG.p (RG.p (RG.p (RG.p f 201 (f.r 20)) 202 (f.r 17)) 203 v1) 204 v2) 232 v19) 233 v21) 234 v23) 231 v23) 235 v25) 236 v26) 23 v25) 4 v26) 238 v27) 239 v29) 240 v31) 237 v31) 241 v33) 242 v34) 24 v33) 6 v34) 244 v35) 245 v38) 246 v40) 247 v42) 243 v42) 248 v44) 249 v45) 25 v44) 11 v45) 251 v46) 252 v49) 253 v51) 254 v53) 250 v53) 255 v55) 256 v56) 26 v55) 13 v56) 258 v57) 259 v60) 260 v62) 261 v64) 257 v64) 262 v66) 263 v67) 15 v67) 264 v26) 265 v68) 266 v68) 266 (Value.bool false)) 267 v34) 268 v69) 269 v69) 270 v69) 270 (Value.bool false)) 271 v45) 272 v70) 273 v70) 274 v70) 274 (Value.bool false)) 275 v56) 276 v71) 277 v71) 278 v71) 278 (Value.bool false)) 279 v67) 280 v72) 281 v72) 282 v72) 282 (Value.bool false)) 283 v25) 284 v73) 285 v73) 286 v73) 286 (Value.bool false)) 287 v33) 288 v74) 289 v74) 290 v74) 290 (Value.bool true)) 291 undef) 292 undef) 293 (Value.bool true)) 294 (Value.bool true)) 294 (Value.bool true)) 295 undef) 296 undef) 297 (Value.bool true)) h65 (contX pl3 prog J 359 n0 3 ct3 [1, 1, 1, 1, 1, 1, 1, 1, 1, 1, 1, 1, 1, 1, 1, 1, 1, 1, 1, 1, 1, 1, 1, 1, 1, 1, 0, 1] (codeOf f3) [] (RetQ prog [.tmp 0] n0 K))))
(aBin prog .neq 3 v44 (vint 0) fun v75 =>
 cnd v75
(Hold (W prog J 359 n0 3 (subC [1, 1, 1, 1, 1, 1, 1, 1, 1, 1, 1, 1, 1, 1, 1, 1, 1, 1, 1, 1, 1, 1, 1, 1, 1, 1, 0, 1] (codeOf f3)) (RG.p (RG.p (RG.p (RG.p (RG.p (RG.p (RG.p (RG.p (RG.p (RG.p (RG.p (RG.p (RG.p (RG.p (RG.p (RG.p (RG.p (RG.p (RG.p (RG.p (RG.p (RG.p (RG.p (RG.p (RG.p (RG.p (RG.p (RG.p (RG.p (RG.p (RG.p (RG.p (RG.p (RG.p (RG.p (RG.p (RG.p (RG.p (RG.p (RG.p (RG.p (RG.p (RG.p (RG.p (RG.p (RG.p (RG.p (RG.p (RG.p (RG.p (RG.p (RG.p (RG.p (RG.p (RG.p (RG.p (RG.p (RG.p (RG.p (RG.p (RG.p (RG.p (RG.p (RG.p (RG.p (RG.p (RG.p (RG.p (RG.p (RG.p (RG.p (RG.p (RG.p (RG.p (RG.p (RG.p (RG.p (RG.p (RG.p (RG.p (RG.p (RG.p (RG.p (RG.p (RG.p (RG.p (RG.p (RG.p f 201 (f.r 20)) 202 (f.r 17)) 203 v1) 204 v2) 232 v19) 233 v21) 234 v23) 231 v23) 235 v25) 236 v26) 23 v25) 4 v26) 238 v27) 239 v29) 240 v31) 237 v31) 241 v33) 242 v34) 24 v33) 6 v34) 244 v35) 245 v38) 246 v40) 247 v42) 243 v42) 248 v44) 249 v45) 25 v44) 11 v45) 251 v46) 252 v49) 253 v51) 254 v53) 250 v53) 255 v55) 256 v56) 26 v55) 13 v56) 258 v57) 259 v60) 260 v62) 261 v64) 257 v64) 262 v66) 263 v67) 15 v67) 264 v26) 265 v68) 266 v68) 266 (Value.bool false)) 267 v34) 268 v69) 269 v69) 270 v69) 270 (Value.bool false)) 271 v45) 272 v70) 273 v70) 274 v70) 274 (Value.bool false)) 275 v56) 276 v71) 277 v71) 278 v71) 278 (Value.bool false)) 279 v67) 280 v72) 281 v72) 282 v72) 282 (Value.bool false)) 283 v25) 284 v73) 285 v73) 286 v73) 286 (Value.bool false)) 287 v33) 288 v74) 289 v74) 290 v74) 290 (Value.bool false)) 291 v44) 292 v75) 293 v75) 294 v75) 294 (Value.bool true)) 295 undef) 296 undef) 297 (Value.bool true)) h65 (contX pl3 prog J 359 n0 3 ct3 [1, 1, 1, 1, 1, 1, 1, 1, 1, 1, 1, 1, 1, 1, 1, 1, 1, 1, 1, 1, 1, 1, 1, 1, 1, 1, 0, 1] (codeOf f3) [] (RetQ prog [.tmp 0] n0 K))))
(aBin prog .neq 3 v55 (vint 2) fun v76 =>
 Hold (W prog J 359 n0 3 (subC [1, 1, 1, 1, 1, 1, 1, 1, 1, 1, 1, 1, 1, 1, 1, 1, 1, 1, 1, 1, 1, 1, 1, 1, 1, 1, 0, 1] (codeOf f3)) (RG.p (RG.p (RG.p (RG.p (RG.p (RG.p (RG.p (RG.p (RG.p (RG.p (RG.p (RG.p (RG.p (RG.p (RG.p (RG.p (RG.p (RG.p (RG.p (RG.p (RG.p (RG.p (RG.p (RG.p (RG.p (RG.p (RG.p (RG.p (RG.p (RG.p (RG.p (RG.p (RG.p (RG.p (RG.p (RG.p (RG.p (RG.p (RG.p (RG.p (RG.p (RG.p (RG.p (RG.p (RG.p (RG.p (RG.p (RG.p (RG.p (RG.p (RG.p (RG.p (RG.p (RG.p (RG.p (RG.p (RG.p (RG.p (RG.p (RG.p (RG.p (RG.p (RG.p (RG.p (RG.p (RG.p (RG.p (RG.p (RG.p (RG.p (RG.p (RG.p (RG.p (RG.p (RG.p (RG.p (RG.p (RG.p (RG.p (RG.p (RG.p (RG.p (RG.p (RG.p (RG.p (RG.p (RG.p (RG.p f 201 (f.r 20)) 202 (f.r 17)) 203 v1) 204 v2) 232 v19) 233 v21) 234 v23) 231 v23) 235 v25) 236 v26) 23 v25) 4 v26) 238 v27) 239 v29) 240 v31) 237 v31) 241 v33) 242 v34) 24 v33) 6 v34) 244 v35) 245 v38) 246 v40) 247 v42) 243 v42) 248 v44) 249 v45) 25 v44) 11 v45) 251 v46) 252 v49) 253 v51) 254 v53) 250 v53) 255 v55) 256 v56) 26 v55) 13 v56) 258 v57) 259 v60) 260 v62) 261 v64) 257 v64) 262 v66) 263 v67) 15 v67) 264 v26) 265 v68) 266 v68) 266 (Value.bool false)) 267 v34) 268 v69) 269 v69) 270 v69) 270 (Value.bool false)) 271 v45) 272 v70) 273 v70) 274 v70) 274 (Value.bool false)) 275 v56) 276 v71) 277 v71) 278 v71) 278 (Value.bool false)) 279 v67) 280 v72) 281 v72) 282 v72) 282 (Value.bool false)) 283 v25) 284 v73) 285 v73) 286 v73) 286 (Value.bool false)) 287 v33) 288 v74) 289 v74) 290 v74) 290 (Value.bool false)) 291 v44) 292 v75) 293 v75) 294 v75) 294 (Value.bool false)) 295 v55) 296 v76) 297 v76) h65 (contX pl3 prog J 359 n0 3 ct3 [1, 1, 1, 1, 1, 1, 1, 1, 1, 1, 1, 1, 1, 1, 1, 1, 1, 1, 1, 1, 1, 1, 1, 1, 1, 1, 0, 1] (codeOf f3) [] (RetQ prog [.tmp 0] n0 K)))))))))))))))) := sub_eq pok3 ct3 (by kernel_rfl)
theorem l3_5 (hJ : Closed prog main J) {S : Type} (μ : S → Nat) (I : S → RG → List AObj → Prop) (hI : ∀ s f h, I s f h → heapOk h → n0 ≤ h.length → W prog J 359 n0 3 (subC [1, 1, 1, 1, 1, 1, 1, 1, 1, 1, 1, 1, 1, 1, 1, 1, 1, 1, 1, 1, 0, 1, 0, 0] (codeOf f3)) f h (thenK (Nx n0 μ I s) (contX pl3 prog J 359 n0 3 ct3 [1, 1, 1, 1, 1, 1, 1, 1, 1, 1, 1, 1, 1, 1, 1, 1, 1, 1, 1, 1, 0, 1, 0] (codeOf f3) [] (RetQ prog [.tmp 0] n0 K))))
 {s : S} {f : RG} (hi : Gets n0 I s f h) : Sem J 359 n0 3 (subC [1, 1, 1, 1, 1, 1, 1, 1, 1, 1, 1, 1, 1, 1, 1, 1, 1, 1, 1, 1, 0, 1, 0] (codeOf f3)) f h (contX pl3 prog J 359 n0 3 ct3 [1, 1, 1, 1, 1, 1, 1, 1, 1, 1, 1, 1, 1, 1, 1, 1, 1, 1, 1, 1, 0, 1, 0] (codeOf f3) [] (RetQ prog [.tmp 0] n0 K)) :=
 loop_rule hJ mixed (b := subC [1, 1, 1, 1, 1, 1, 1, 1, 1, 1, 1, 1, 1, 1, 1, 1, 1, 1, 1, 1, 0, 1, 0, 0] (codeOf f3)) (by kernel_rfl) μ I hI hi
theorem s3_6 {f : RG} {nx0 : RG → List AObj → Prop} : W prog J 359 n0 3 (subC [1, 1, 1, 1, 1, 1, 1, 1, 1, 1, 1, 1, 1, 1, 1, 1, 1, 1, 1, 1, 0, 1, 0, 0, 1, 0, 0, 1, 1] (codeOf f3)) f h (contX pl3 prog J 359 n0 3 ct3 [1, 1, 1, 1, 1, 1, 1, 1, 1, 1, 1, 1, 1, 1, 1, 1, 1, 1, 1, 1, 0, 1, 0, 0, 1, 0, 0, 1, 1] (codeOf f3) [nx0] (RetQ prog [.tmp 0] n0 K)) =
(cnd (f.r 230)
(retL n0 K f.ds [(Value.bool false)] h)
(aBin prog .add 3 (f.r 20) (vint 1) fun v1 =>
 nx0 (RG.p (RG.p (RG.p f 205 (f.r 20)) 206 v1) 20 v1) h)) := sub_eq pok3 ct3 (by kernel_rfl)
theorem s3_7 {f : RG} : W prog J 359 n0 3 (subC [1, 1, 1, 1, 1, 1, 1, 1, 1, 1, 1, 1, 1, 1, 1, 1, 1, 1, 1, 1, 1, 1, 1, 1, 1, 1, 0, 1] (codeOf f3)) f h (contX pl3 prog J 359 n0 3 ct3 [1, 1, 1, 1, 1, 1, 1, 1, 1, 1, 1, 1, 1, 1, 1, 1, 1, 1, 1, 1, 1, 1, 1, 1, 1, 1, 0, 1] (codeOf f3) [] (RetQ prog [.tmp 0] n0 K)) =
(cnd (f.r 297)
(retL n0 K f.ds [(Value.bool false)] h)
(Good prog J 4 [] h fun v1 h2 =>
 Good prog J 8 [] h2 fun v3 h4 =>
 Good prog J 18 [v1, v3, (vint 13), (vint 1), (vint 0)] h4 fun v5 h6 =>
 aExt v5 0 fun v7 =>
 aExt v5 1 fun v8 =>
 Good prog J 4 [] h6 fun v9 h10 =>
 Good prog J 8 [] h10 fun v11 h12 =>
 Good prog J 18 [v9, v11, (vint 14), (vint 1), (vint 0)] h12 fun v13 h14 =>
 aExt v13 0 fun v15 =>
 aExt v13 1 fun v16 =>
 Good prog J 4 [] h14 fun v17 h18 =>
 Good prog J 8 [] h18 fun v19 h20 =>
 Good prog J 18 [v17, v19, (vint 15), (vint 1), (vint 0)] h20 fun v21 h22 =>
 aExt v21 0 fun v23 =>
 aExt v21 1 fun v24 =>
 Good prog J 4 [] h22 fun v25 h26 =>
(((1 * 6 : Nat) ≤ 16777216 ∧ (1 : Nat) ≤ 16777216 ∧ List.length [(vint 0), (vint 0), (vint 0), (vint 0), (vint 0), (vint 0)] = 6) ∧ aFill (zrep [(vint 0), (vint 0), (vint 0), (vint 0), (vint 0), (vint 0)] 1) [(0, 6, v25)] fun c27 =>
 aNewS 1 c27 h26 fun v28 h29 =>
 Good prog J 8 [] h29 fun v30 h31 =>
 Good prog J 19 [v28, v30, (vint 6)] h31 fun v32 h33 =>
 aExt v32 0 fun v34 =>
 aExt v32 1 fun v35 =>
 Good prog J 4 [] h33 fun v36 h37 =>
 Good prog J 8 [] h37 fun v38 h39 =>
 Good prog J 20 [v36, v38] h39 fun v40 h41 =>
 aExt v40 0 fun v42 =>
 aExt v40 1 fun v43 =>
 aBin prog .eql 26 v8 (vint 0) fun v44 =>
 cnd v44
(aBin prog .eql 26 v16 (vint 0) fun v45 =>
 cnd v45
(aBin prog .eql 26 v24 (vint 11) fun v46 =>
 cnd v46
(aBin prog .eql 26 v35 (vint 11) fun v47 =>
 cnd v47
(aBin prog .eql 26 v43 (vint 0) fun v48 =>
 cnd v48
(aBin prog .eql 3 v7 (vint 1) fun v49 =>
 cnd v49
(aBin prog .eql 3 v15 (vint 2) fun v50 =>
 cnd v50
(aBin prog .eql 9 v42 (Value.string { data := #[103, 114, 97, 115, 115, 32, 49, 50, 32, 111, 102, 32, 50, 48, 32, 103, 114, 111, 119, 115, 32, 49, 32, 116, 111, 32, 52, 10, 98, 101, 108, 111, 119, 32, 51, 32, 115, 108, 101, 101, 112, 115, 32, 50, 10, 115, 107, 121, 32, 51, 32, 100, 114, 121, 32, 50, 32, 119, 101, 116, 32, 50, 10] }) fun v51 =>
 retL n0 K f.ds [v51] h41)
(retL n0 K f.ds [(Value.bool false)] h41))
(retL n0 K f.ds [(Value.bool false)] h41))
(retL n0 K f.ds [(Value.bool false)] h41))
(retL n0 K f.ds [(Value.bool false)] h41))
(retL n0 K f.ds [(Value.bool false)] h41))
(retL n0 K f.ds [(Value.bool false)] h41))
(retL n0 K f.ds [(Value.bool false)] h41)))) := sub_eq pok3 ct3 (by kernel_rfl)
end
section
variable {main : Bool} {J : JT} {n0 : Nat} {h : List AObj} {K : Value → List AObj → Prop}
theorem at9 : prog.funcs[9]? = some f9 := by kernel_rfl
theorem body9 : f9.body = some (codeOf f9) := by kernel_rfl
def pl9 : Plans := [(6, true, .take 0 (.take 1 (.take 2 (.take 3 (.take 4 (.take 5 (.take 6 (.take 7 (.take 8 (.fin))))))))))]
def ct9 : Cuts := .go
theorem pok9 : plansOk prog pl9 (codeOf f9) = true := by kernel_rfl
theorem e9 {a0 a1 : Value} : W prog J 26 h.length 9 (codeOf f9) (RG.mk (regs [a0, a1]) []) h (RetQ prog [.tmp 4] h.length K) =
(aLenS a0 fun v1 =>
 aLenS a1 fun v2 =>
 aBin prog .neq 3 v1 v2 fun v3 =>
 cnd v3
(retL h.length K [] [(Value.bool false)] h)
(Sem J 26 h.length 9 (subC [1, 1, 0, 1, 0] (codeOf f9)) (RG.p (RG.p (RG.p (RG.p (RG.p (RG.p (RG.p (RG.mk (regs [a0, a1]) []) 4 (Value.bool false)) 6 a0) 7 v1) 8 a1) 9 v2) 10 v3) 5 (vint 0)) h (contX pl9 prog J 26 h.length 9 ct9 [1, 1, 0, 1, 0] (codeOf f9) [] (RetQ prog [.tmp 4] h.length K)))) := top_eq pok9 ct9 (by kernel_rfl)
theorem g9 (hJ : Closed prog main J) {a0 a1 : Value} (hs : heapOk h → W prog J 26 h.length 9 (codeOf f9) (RG.mk (regs [a0, a1]) []) h (RetQ prog [.tmp 4] h.length K)) : Good prog J 9 [a0, a1] h K :=
 good_of_W hJ mixed at9 body9 (by kernel_rfl) (Nat.le_of_ble_eq_true rfl) hs
theorem s9_1 {f : RG} {nx0 : RG → List AObj → Prop} : W prog J 26 n0 9 (subC [1, 1, 0, 1, 0, 0] (codeOf f9)) f h (thenK nx0 (contX pl9 prog J 26 n0 9 ct9 [1, 1, 0, 1, 0] (codeOf f9) [] (RetQ prog [.tmp 4] n0 K))) =
(aLenS (f.r 0) fun v1 =>
 aBin prog .lss 3 (f.r 5) v1 fun v2 =>
 cnd v2
(aIdx 1 (f.r 0) (f.r 5) fun v3 =>
 aLoad false 1 v3 h fun v4 =>
 aIdx 1 (f.r 1) (f.r 5) fun v5 =>
 aLoad false 1 v5 h fun v6 =>
 aBin prog .neq 9 v4 v6 fun v7 =>
 cnd v7
(retL n0 K f.ds [(Value.bool false)] h)
(aBin prog .add 3 (f.r 5) (vint 1) fun v8 =>
 nx0 (RG.p (RG.p (RG.p (RG.p (RG.p (RG.p (RG.p (RG.p (RG.p (RG.p (RG.p (RG.p (RG.p (RG.p (RG.p (RG.p f 11 (f.r 5)) 12 (f.r 0)) 13 v1) 14 v2) 17 (f.r 0)) 18 (f.r 5)) 19 v3) 20 v4) 21 (f.r 1)) 22 (f.r 5)) 23 v5) 24 v6) 25 v7) 15 (f.r 5)) 16 v8) 5 v8) h))
(retL n0 K f.ds [(Value.bool true)] h)) := sub_eq pok9 ct9 (by kernel_rfl)
theorem l9_1 (hJ : Closed prog main J) {S : Type} (μ : S → Nat) (I : S → RG → List AObj → Prop) (hI : ∀ s f h, I s f h → heapOk h → n0 ≤ h.length → W prog J 26 n0 9 (subC [1, 1, 0, 1, 0, 0] (codeOf f9)) f h (thenK (Nx n0 μ I s) (contX pl9 prog J 26 n0 9 ct9 [1, 1, 0, 1, 0] (codeOf f9) [] (RetQ prog [.tmp 4] n0 K))))
 {s : S} {f : RG} (hi : Gets n0 I s f h) : Sem J 26 n0 9 (subC [1, 1, 0, 1, 0] (codeOf f9)) f h (contX pl9 prog J 26 n0 9 ct9 [1, 1, 0, 1, 0] (codeOf f9) [] (RetQ prog [.tmp 4] n0 K)) :=
 loop_rule hJ mixed (b := subC [1, 1, 0, 1, 0, 0] (codeOf f9)) (by kernel_rfl) μ I hI hi
end
section
variable {main : Bool} {J : JT} {n0 : Nat} {h : List AObj} {K : Value → List AObj → Prop}
theorem at20 : prog.funcs[20]? = some f20 := by kernel_rfl
theorem body20 : f20.body = some (codeOf f20) := by kernel_rfl
def pl20 : Plans := [(1, false, .take 0 (.take 2 (.last 1 true (.last 3 true (.last 4 true (.last 5 true (.take 6 (.fin)))))))),
 (5, false, .take 0 (.take 1 (.take 2 (.take 6 (.take 7 (.take 8 (.take 12 (.take 13 (.take 14 (.take 18 (.take 19 (.take 20 (.take 24 (.take 25 (.take 26 (.take 30 (.take 31 (.take 32 (.take 36 (.take 37 (.take 38 (.take 42 (.take 43 (.take 44 (.take 48 (.take 49 (.take 50 (.last 3 true (.take 4 (.take 5 (.last 9 true (.take 10 (.take 11 (.last 15 true (.take 16 (.take 17 (.last 21 true (.take 22 (.take 23 (.last 27 true (.take 28 (.take 29 (.last 33 true (.take 34 (.take 35 (.last 39 true (.take 40 (.take 41 (.last 45 true (.take 46 (.take 47 (.last 51 true (.take 52 (.take 53 (.take 54 (.take 55 (.fin)))))))))))))))))))))))))))))))))))))))))))))))))))))))))]
def ct20 : Cuts := .go
theorem pok20 : plansOk prog pl20 (codeOf f20) = true := by kernel_rfl
theorem e20 {a0 a1 : Value} : W prog J 71 h.length 20 (codeOf f20) (RG.mk (regs [a0, a1]) []) h (RetQ prog [.tmp 4, .tmp 5] h.length K) =
(aBox a0 h fun v1 h2 =>
 aBox a1 h2 fun v3 h4 =>
(∃ B, aLoad true 6 v1 h4 fun v5 =>
 RdOk (some B) (ptrBlk v1) ∧ (aLoad true 3 v3 h4 fun v6 =>
 RdOk (some B) (ptrBlk v3) ∧ (Good prog J 6 [v5] h4 fun v7 h8 =>
 SameB (some B) h4 h8 ∧ (Good prog J 25 [v6] h8 fun v9 h10 =>
 SameB (some B) h4 h10 ∧ ((((2 * 1 : Nat) ≤ 16777216 ∧ (2 : Nat) ≤ 16777216 ∧ List.length [(vint 0)] = 1) ∧ aFill (zrep [(vint 0)] 2) [(0, 1, v7), (1, 1, v9)] fun c11 =>
 aNewS 2 c11 h10 fun v12 h13 =>
 SameB (some B) h4 h13 ∧ (Good prog J 34 [v12] h13 fun v14 h15 =>
 SameB (some B) h4 h15 ∧ (aBin prog .neq 26 v14 (vint 0) fun v16 =>
 cnd v16
(retL h.length K [] [(Value.string { data := #[] }), v14] h15)
((∃ B, aOff v1 0 fun v17 =>
 aLoad false 1 v17 h15 fun v18 =>
 RdOk (some B) (ptrBlk v17) ∧ (aOff v1 1 fun v19 =>
 aLoad false 1 v19 h15 fun v20 =>
 RdOk (some B) (ptrBlk v19) ∧ (aOff v1 2 fun v21 =>
 aLoad false 1 v21 h15 fun v22 =>
 RdOk (some B) (ptrBlk v21) ∧ (aOff v1 3 fun v23 =>
 aLoad false 1 v23 h15 fun v24 =>
 RdOk (some B) (ptrBlk v23) ∧ (aOff v1 4 fun v25 =>
 aLoad false 1 v25 h15 fun v26 =>
 RdOk (some B) (ptrBlk v25) ∧ (aOff v1 5 fun v27 =>
 aLoad false 1 v27 h15 fun v28 =>
 RdOk (some B) (ptrBlk v27) ∧ (aOff v3 0 fun v29 =>
 aLoad false 1 v29 h15 fun v30 =>
 RdOk (some B) (ptrBlk v29) ∧ (aOff v3 1 fun v31 =>
 aLoad false 1 v31 h15 fun v32 =>
 RdOk (some B) (ptrBlk v31) ∧ (aOff v3 2 fun v33 =>
 aLoad false 1 v33 h15 fun v34 =>
 RdOk (some B) (ptrBlk v33) ∧ (callV prog (Good prog J) (Value.func (.func 45) #[] #[]) [v18] h15 fun v35 h36 =>
 SameB (some B) h15 h36 ∧ (aBin prog .add 9 (Value.string { data := #[103, 114, 97, 115, 115, 32] }) v35 fun v37 =>
 aBin prog .add 9 v37 (Value.string { data := #[32, 111, 102, 32] }) fun v38 =>
 callV prog (Good prog J) (Value.func (.func 45) #[] #[]) [v20] h36 fun v39 h40 =>
 SameB (some B) h15 h40 ∧ (aBin prog .add 9 v38 v39 fun v41 =>
 aBin prog .add 9 v41 (Value.string { data := #[32, 103, 114, 111, 119, 115, 32] }) fun v42 =>
 callV prog (Good prog J) (Value.func (.func 45) #[] #[]) [v22] h40 fun v43 h44 =>
 SameB (some B) h15 h44 ∧ (aBin prog .add 9 v42 v43 fun v45 =>
 aBin prog .add 9 v45 (Value.string { data := #[32, 116, 111, 32] }) fun v46 =>
 callV prog (Good prog J) (Value.func (.func 45) #[] #[]) [v24] h44 fun v47 h48 =>
 SameB (some B) h15 h48 ∧ (aBin prog .add 9 v46 v47 fun v49 =>
 aBin prog .add 9 v49 (Value.string { data := #[10, 98, 101, 108, 111, 119, 32] }) fun v50 =>
 callV prog (Good prog J) (Value.func (.func 45) #[] #[]) [v26] h48 fun v51 h52 =>
 SameB (some B) h15 h52 ∧ (aBin prog .add 9 v50 v51 fun v53 =>
 aBin prog .add 9 v53 (Value.string { data := #[32, 115, 108, 101, 101, 112, 115, 32] }) fun v54 =>
 callV prog (Good prog J) (Value.func (.func 45) #[] #[]) [v28] h52 fun v55 h56 =>
 SameB (some B) h15 h56 ∧ (aBin prog .add 9 v54 v55 fun v57 =>
 aBin prog .add 9 v57 (Value.string { data := #[10, 115, 107, 121, 32] }) fun v58 =>
 callV prog (Good prog J) (Value.func (.func 45) #[] #[]) [v30] h56 fun v59 h60 =>
 SameB (some B) h15 h60 ∧ (aBin prog .add 9 v58 v59 fun v61 =>
 aBin prog .add 9 v61 (Value.string { data := #[32, 100, 114, 121, 32] }) fun v62 =>
 callV prog (Good prog J) (Value.func (.func 45) #[] #[]) [v32] h60 fun v63 h64 =>
 SameB (some B) h15 h64 ∧ (aBin prog .add 9 v62 v63 fun v65 =>
 aBin prog .add 9 v65 (Value.string { data := #[32, 119, 101, 116, 32] }) fun v66 =>
 callV prog (Good prog J) (Value.func (.func 45) #[] #[]) [v34] h64 fun v67 h68 =>
 SameB (some B) h15 h68 ∧ (aBin prog .add 9 v66 v67 fun v69 =>
 aBin prog .add 9 v69 (Value.string { data := #[10] }) fun v70 =>
 retL h.length K [] [v70, (vint 0)] h68))))))))))))))))))))))))))))) := top_eq pok20 ct20 (by kernel_rfl)
theorem g20 (hJ : Closed prog main J) {a0 a1 : Value} (hs : heapOk h → W prog J 71 h.length 20 (codeOf f20) (RG.mk (regs [a0, a1]) []) h (RetQ prog [.tmp 4, .tmp 5] h.length K)) : Good prog J 20 [a0, a1] h K :=
 good_of_W hJ mixed at20 body20 (by kernel_rfl) (Nat.le_of_ble_eq_true rfl) hs
theorem at45 : prog.funcs[45]? = some f45 := by kernel_rfl
theorem body45 : f45.body = some (codeOf f45) := by kernel_rfl
def pl45 : Plans := []
def ct45 : Cuts := .go
theorem pok45 : plansOk prog pl45 (codeOf f45) = true := by kernel_rfl
theorem e45 {a0 : Value} : W prog J 5 h.length 45 (codeOf f45) (RG.mk (regs [a0]) []) h (RetQ prog [.tmp 2] h.length K) =
(Good prog J 73 [a0] h fun v1 h2 =>
 retL h.length K [] [v1] h2) := top_eq pok45 ct45 (by kernel_rfl)
theorem g45 (hJ : Closed prog main J) {a0 : Value} (hs : heapOk h → W prog J 5 h.length 45 (codeOf f45) (RG.mk (regs [a0]) []) h (RetQ prog [.tmp 2] h.length K)) : Good prog J 45 [a0] h K :=
 good_of_W hJ mixed at45 body45 (by kernel_rfl) (Nat.le_of_ble_eq_true rfl) hs
theorem at73 : prog.funcs[73]? = some f73 := by kernel_rfl
theorem body73 : f73.body = some (codeOf f73) := by kernel_rfl
def pl73 : Plans := []
def ct73 : Cuts := .go
theorem pok73 : plansOk prog pl73 (codeOf f73) = true := by kernel_rfl
theorem e73 {a0 : Value} : W prog J 5 h.length 73 (codeOf f73) (RG.mk (regs [a0]) []) h (RetQ prog [.tmp 2] h.length K) =
(Good prog J 79 [a0, (vint 10)] h fun v1 h2 =>
 retL h.length K [] [v1] h2) := top_eq pok73 ct73 (by kernel_rfl)
theorem g73 (hJ : Closed prog main J) {a0 : Value} (hs : heapOk h → W prog J 5 h.length 73 (codeOf f73) (RG.mk (regs [a0]) []) h (RetQ prog [.tmp 2] h.length K)) : Good prog J 73 [a0] h K :=
 good_of_W hJ mixed at73 body73 (by kernel_rfl) (Nat.le_of_ble_eq_true rfl) hs
theorem at79 : prog.funcs[79]? = some f79 := by kernel_rfl
theorem body79 : f79.body = some (codeOf f79) := by kernel_rfl
def pl79 : Plans := []
def ct79 : Cuts := .bin (.go) (.bin (.bin (.go) (.bin (.bin (.bin (.go) (.cut (.go))) (.bin (.go) (.bin (.go) (.bin (.go) (.cut (.go)))))) (.go))) (.go))
theorem pok79 : plansOk prog pl79 (codeOf f79) = true := by kernel_rfl
theorem e79 {a0 a1 : Value} : W prog J 54 h.length 79 (codeOf f79) (RG.mk (regs [a0, a1]) []) h (RetQ prog [.tmp 4] h.length K) =
(aBin prog .eql 3 a1 (vint 10) fun v1 =>
 cnd v1
(aBin prog .leq 2 (vint 0) a0 fun v2 =>
 cnd v2
(aBin prog .lss 2 a0 (vint 100) fun v3 =>
 Hold (W prog J 54 h.length 79 (subC [1, 0, 1, 0, 0, 1] (codeOf f79)) (RG.p (RG.p (RG.p (RG.p (RG.p (RG.p (RG.p (RG.p (RG.p (RG.p (RG.mk (regs [a0, a1]) []) 4 (Value.string { data := #[] })) 10 a1) 11 v1) 12 a0) 13 v2) 14 v2) 14 (Value.bool true)) 15 a0) 16 v3) 17 v3) h (contX pl79 prog J 54 h.length 79 ct79 [1, 0, 1, 0, 0, 1] (codeOf f79) [] (RetQ prog [.tmp 4] h.length K))))
(Hold (W prog J 54 h.length 79 (subC [1, 0, 1, 0, 0, 1] (codeOf f79)) (RG.p (RG.p (RG.p (RG.p (RG.p (RG.p (RG.p (RG.p (RG.p (RG.p (RG.mk (regs [a0, a1]) []) 4 (Value.string { data := #[] })) 10 a1) 11 v1) 12 a0) 13 v2) 14 v2) 14 (Value.bool false)) 15 undef) 16 undef) 17 (Value.bool false)) h (contX pl79 prog J 54 h.length 79 ct79 [1, 0, 1, 0, 0, 1] (codeOf f79) [] (RetQ prog [.tmp 4] h.length K)))))
(aConvI .u64 a0 fun v4 =>
 aBin prog .lss 2 a0 (vint 0) fun v5 =>
 Good prog J 83 [(Value.slice none 0 0), v4, a1, v5, (Value.bool false)] h fun v6 h7 =>
 aExt v6 0 fun v8 =>
 aExt v6 1 fun v9 =>
 retL h.length K [] [v9] h7)) := top_eq pok79 ct79 (by kernel_rfl)
theorem g79 (hJ : Closed prog main J) {a0 a1 : Value} (hs : heapOk h → W prog J 54 h.length 79 (codeOf f79) (RG.mk (regs [a0, a1]) []) h (RetQ prog [.tmp 4] h.length K)) : Good prog J 79 [a0, a1] h K :=
 good_of_W hJ mixed at79 body79 (by kernel_rfl) (Nat.le_of_ble_eq_true rfl) hs
theorem s79_1 {f : RG} : W prog J 54 n0 79 (subC [1, 0, 1, 0, 0, 1] (codeOf f79)) f h (contX pl79 prog J 54 n0 79 ct79 [1, 0, 1, 0, 0, 1] (codeOf f79) [] (RetQ prog [.tmp 4] n0 K)) =
(cnd (f.r 17)
(Good prog J 80 [(f.r 0)] h fun v1 h2 =>
 retL n0 K f.ds [v1] h2)
(aAlloc [(Value.int .u8 0), (Value.int .u8 0), (Value.int .u8 0), (Value.int .u8 0), (Value.int .u8 0), (Value.int .u8 0), (Value.int .u8 0), (Value.int .u8 0), (Value.int .u8 0), (Value.int .u8 0), (Value.int .u8 0), (Value.int .u8 0), (Value.int .u8 0), (Value.int .u8 0), (Value.int .u8 0), (Value.int .u8 0), (Value.int .u8 0), (Value.int .u8 0), (Value.int .u8 0), (Value.int .u8 0), (Value.int .u8 0), (Value.int .u8 0), (Value.int .u8 0), (Value.int .u8 0)] h fun v3 h4 =>
 aConvI .u64 (f.r 0) fun v5 =>
 aBin prog .lss 2 (f.r 0) (vint 0) fun v6 =>
 cnd v6
(aUn .neg v5 fun v7 =>
 Hold (W prog J 54 n0 79 (subC [1, 0, 1, 0, 1, 1, 1, 1] (codeOf f79)) (RG.p (RG.p (RG.p (RG.p (RG.p (RG.p (RG.p (RG.p (RG.p f 5 v3) 20 (f.r 0)) 21 v5) 6 v5) 22 (f.r 0)) 23 v6) 24 v5) 25 v7) 6 v7) h4 (contX pl79 prog J 54 n0 79 ct79 [1, 0, 1, 0, 1, 1, 1, 1] (codeOf f79) [] (RetQ prog [.tmp 4] n0 K))))
(Hold (W prog J 54 n0 79 (subC [1, 0, 1, 0, 1, 1, 1, 1] (codeOf f79)) (RG.p (RG.p (RG.p (RG.p (RG.p (RG.p f 5 v3) 20 (f.r 0)) 21 v5) 6 v5) 22 (f.r 0)) 23 v6) h4 (contX pl79 prog J 54 n0 79 ct79 [1, 0, 1, 0, 1, 1, 1, 1] (codeOf f79) [] (RetQ prog [.tmp 4] n0 K)))))) := sub_eq pok79 ct79 (by kernel_rfl)
theorem at80 : prog.funcs[80]? = some f80 := by kernel_rfl
theorem body80 : f80.body = some (codeOf f80) := by kernel_rfl
def pl80 : Plans := []
def ct80 : Cuts := .go
theorem pok80 : plansOk prog pl80 (codeOf f80) = true := by kernel_rfl
theorem e80 {a0 : Value} : W prog J 15 h.length 80 (codeOf f80) (RG.mk (regs [a0]) []) h (RetQ prog [.tmp 2] h.length K) =
(aBin prog .lss 3 a0 (vint 10) fun v1 =>
 cnd v1
(aBin prog .add 3 a0 (vint 1) fun v2 =>
 aSlStr (Value.string { data := #[48, 49, 50, 51, 52, 53, 54, 55, 56, 57, 97, 98, 99, 100, 101, 102, 103, 104, 105, 106, 107, 108, 109, 110, 111, 112, 113, 114, 115, 116, 117, 118, 119, 120, 121, 122] }) (some a0) (some v2) fun v3 =>
 retL h.length K [] [v3] h)
(aBin prog .mul 3 a0 (vint 2) fun v4 =>
 aBin prog .mul 3 a0 (vint 2) fun v5 =>
 aBin prog .add 3 v5 (vint 2) fun v6 =>
 aSlStr (Value.string { data := #[48, 48, 48, 49, 48, 50, 48, 51, 48, 52, 48, 53, 48, 54, 48, 55, 48, 56, 48, 57, 49, 48, 49, 49, 49, 50, 49, 51, 49, 52, 49, 53, 49, 54, 49, 55, 49, 56, 49, 57, 50, 48, 50, 49, 50, 50, 50, 51, 50, 52, 50, 53, 50, 54, 50, 55, 50, 56, 50, 57, 51, 48, 51, 49, 51, 50, 51, 51, 51, 52, 51, 53, 51, 54, 51, 55, 51, 56, 51, 57, 52, 48, 52, 49, 52, 50, 52, 51, 52, 52, 52, 53, 52, 54, 52, 55, 52, 56, 52, 57, 53, 48, 53, 49, 53, 50, 53, 51, 53, 52, 53, 53, 53, 54, 53, 55, 53, 56, 53, 57, 54, 48, 54, 49, 54, 50, 54, 51, 54, 52, 54, 53, 54, 54, 54, 55, 54, 56, 54, 57, 55, 48, 55, 49, 55, 50, 55, 51, 55, 52, 55, 53, 55, 54, 55, 55, 55, 56, 55, 57, 56, 48, 56, 49, 56, 50, 56, 51, 56, 52, 56, 53, 56, 54, 56, 55, 56, 56, 56, 57, 57, 48, 57, 49, 57, 50, 57, 51, 57, 52, 57, 53, 57, 54, 57, 55, 57, 56, 57, 57] }) (some v4) (some v6) fun v7 =>
 retL h.length K [] [v7] h)) := top_eq pok80 ct80 (by kernel_rfl)
theorem g80 (hJ : Closed prog main J) {a0 : Value} (hs : heapOk h → W prog J 15 h.length 80 (codeOf f80) (RG.mk (regs [a0]) []) h (RetQ prog [.tmp 2] h.length K)) : Good prog J 80 [a0] h K :=
 good_of_W hJ mixed at80 body80 (by kernel_rfl) (Nat.le_of_ble_eq_true rfl) hs
end
section
variable {main : Bool} {J : JT} {n0 : Nat} {h : List AObj} {K : Value → List AObj → Prop}
theorem at7 : prog.funcs[7]? = some f7 := by kernel_rfl
theorem body7 : f7.body = some (codeOf f7) := by kernel_rfl
def pl7 : Plans := []
def ct7 : Cuts := .go
theorem pok7 : plansOk prog pl7 (codeOf f7) = true := by kernel_rfl
theorem e7 {a0 : Value} : W prog J 20 h.length 7 (codeOf f7) (RG.mk (regs [a0]) []) h (RetQ prog [.tmp 2, .tmp 3] h.length K) =
(aBox a0 h fun v1 h2 =>
 aLoad true 3 v1 h2 fun v3 =>
 Good prog J 25 [v3] h2 fun v4 h5 =>
 aBin prog .neq 26 v4 (vint 0) fun v6 =>
 cnd v6
(retL h.length K [] [(Value.slice none 0 0), v4] h5)
(aAlloc [(Value.slice none 0 0)] h5 fun v7 h8 =>
 aLoad true 3 v1 h8 fun v9 =>
 Good prog J 26 [v9] h8 fun v10 h11 =>
 Sem J 20 h.length 7 (subC [1, 1, 1, 0, 1, 0] (codeOf f7)) (RG.p (RG.p (RG.p (RG.p (RG.p (RG.p (RG.p (RG.p (RG.p (RG.p (RG.p (RG.mk (regs [a0]) []) 1 v1) 2 (Value.slice none 0 0)) 3 (vint 0)) 7 v3) 8 v4) 4 v4) 9 v4) 10 v6) 5 v7) 12 v9) 13 v10) h11 (contX pl7 prog J 20 h.length 7 ct7 [1, 1, 1, 0, 1, 0] (codeOf f7) [] (RetQ prog [.tmp 2, .tmp 3] h.length K)))) := top_eq pok7 ct7 (by kernel_rfl)
theorem g7 (hJ : Closed prog main J) {a0 : Value} (hs : heapOk h → W prog J 20 h.length 7 (codeOf f7) (RG.mk (regs [a0]) []) h (RetQ prog [.tmp 2, .tmp 3] h.length K)) : Good prog J 7 [a0] h K :=
 good_of_W hJ mixed at7 body7 (by kernel_rfl) (Nat.le_of_ble_eq_true rfl) hs
theorem a7_1 {f : RG} {fr : FuncId} {Q : QT} : W prog J 20 n0 fr (subC [1, 1, 1, 0, 1, 0, 0] (codeOf f7)) f h Q =
(Q .normal (RG.p f 6 (f.r 14)) h) := sub_eq pok7 ct7 (by kernel_rfl)
theorem b7_1 {f : RG} {fr : FuncId} {Q : QT} : W prog J 20 n0 fr (subC [1, 1, 1, 0, 1, 0, 1] (codeOf f7)) f h Q =
(aLoad false 1 (f.r 5) h fun v1 =>
(((1 * 1 : Nat) ≤ 16777216 ∧ (1 : Nat) ≤ 16777216 ∧ List.length [(Value.string { data := #[] })] = 1) ∧ aFill (zrep [(Value.string { data := #[] })] 1) [(0, 1, (f.r 6))] fun c2 =>
 aNewS 1 c2 h fun v3 h4 =>
((List.length [(Value.string { data := #[] })] = 1 ∧ 0 < (1 : Nat) ∧ 0 < (16 : Nat) ∧ (16 : Nat) ≤ 1024) ∧ aApp 1 v1 v3 h4 fun v5 h6 =>
 aStore 1 (f.r 5) v5 h6 fun h7 =>
 Q .normal (RG.p (RG.p (RG.p (RG.p f 15 v1) 16 (f.r 6)) 17 v3) 18 v5) h7))) := sub_eq pok7 ct7 (by kernel_rfl)
theorem c7_1 {f : RG} : (contX pl7 prog J 20 n0 7 ct7 [1, 1, 1, 0, 1, 0] (codeOf f7) [] (RetQ prog [.tmp 2, .tmp 3] n0 K)) .normal f h =
(aLoad false 1 (f.r 5) h fun v1 =>
 retL n0 K f.ds [v1, (vint 0)] h) := by kernel_rfl
theorem l7_1 (hJ : Closed prog main J) {f : RG} {g : FuncId} {first cap : List Value} (hx : ev f.r ((Go.Operand.tmp 13)) = .func (.func g) ⟨first⟩ ⟨cap⟩) (hg : g < prog.funcs.size)
 (hs : Good prog J g (first ++ [.func (.yield (h.length + 1)) ⟨[]⟩ ⟨[]⟩] ++ cap) (h ++ [.deferred] ++ [.loop .ready none 7 f.r 20 #[14] (subC [1, 1, 1, 0, 1, 0, 0] (codeOf f7)) (subC [1, 1, 1, 0, 1, 0, 1] (codeOf f7)) h.length]) (endQ h.length f (contX pl7 prog J 20 n0 7 ct7 [1, 1, 1, 0, 1, 0] (codeOf f7) [] (RetQ prog [.tmp 2, .tmp 3] n0 K)))) (hcall : callable prog g = true := by kernel_rfl) : Sem J 20 n0 7 (subC [1, 1, 1, 0, 1, 0] (codeOf f7)) f h (contX pl7 prog J 20 n0 7 ct7 [1, 1, 1, 0, 1, 0] (codeOf f7) [] (RetQ prog [.tmp 2, .tmp 3] n0 K)) :=
 Sem_range hJ (by decide) (fop := (Go.Operand.tmp 13)) (params := #[14]) (assign := subC [1, 1, 1, 0, 1, 0, 0] (codeOf f7)) (body := subC [1, 1, 1, 0, 1, 0, 1] (codeOf f7)) hx hg hs hcall
end
end Go.Proofs.YthnccaajpdnndaaDoor
namespace Go.Proofs.YthnccaajpdnndaaDoor
open Go.Conc Go.Proofs.Tryd
set_option maxRecDepth 100000
section
variable {main : Bool} {J : JT} {h H : List AObj} {K : Value → List AObj → Prop} {KV : Value → Prop} {HL : List AObj → Prop} {n0 : Nat}
theorem ownX_like {H' : List AObj} {s len : Nat} {cs : List Value} {v : Value} {o : Option Nat} (ho : OwnX H s cs len v o) (e : ∀ i, o = some i → H'[i]? = H[i]?) : OwnX H' s cs len v o := by
 obtain ⟨h1, h2, ⟨h0, r⟩ | ⟨b, c, sz, rfl, rfl, hb, hc⟩⟩ := ho
 ·exact ⟨h1, h2, .inl ⟨h0, r⟩⟩
 ·exact ⟨h1, h2, .inr ⟨b, c, sz, rfl, rfl, by rw [e b rfl]; exact hb, hc⟩⟩
noncomputable abbrev lpR (st : LoopState) (pend : Option Code) (r : Nat → Value) (d : Nat) : AObj := .loop st pend 7 r 20 #[14] (subC [1, 1, 1, 0, 1, 0, 0] (codeOf f7)) (subC [1, 1, 1, 0, 1, 0, 1] (codeOf f7)) d
theorem roundR (hJ : Closed prog main J) {l d p : Nat} {R : Nat → Value} {w : List UInt8} {L : List (List UInt8)} {v : Value} {o : Option Nat} {Q : Value → List AObj → Prop} (hl : H[l]? = some (lpR .ready none R d)) (r5 : R 5 = ptr p 0) (cp : H[p]? = some (.cells [v] true 0)) (O : OwnX H 1 (strL L) L.length v o) (np : p ≠ l) (no : o ≠ some l) (nop : o ≠ some p) (hL : L.length < 90000)
  (k : ∀ H' v' o', SameX (l :: p :: o.toList) H H' → H'[l]? = some (lpR .ready none R d) → H'[p]? = some (.cells [v'] true 0) → OwnX H' 1 (strL (L ++ [w])) (L ++ [w]).length v' (some o') → H.length ≤ o' → Q (.bool true) H') :
  callV prog (Good prog J) (.func (.yield l) ⟨[]⟩ ⟨[]⟩) [strV w] H Q := by
 show Good prog J (yid prog l) [strV w] H Q
 refine good_round hJ hl rfl (by decide) fun ok => W_sound hJ mixed _ ?_
 rw [a7_1]
 refine ⟨rfl, none, _, _, _, _, _, _, _, hl, W_sound hJ mixed _ ?_⟩
 rw [b7_1]
 have hll := lt_of_get hl
 have hpl := lt_of_get cp
 have hl3 : (H.set l (lpR .busy none R d))[l]? = some (lpR .busy none R d) := List.getElem?_set_self hll
 have S3 : SameX [l] H (H.set l (lpR .busy none R d)) := SameX.refl.set (.inl (by simp))
 have len3 : (H.set l (lpR .busy none R d)).length = H.length := List.length_set ..
 generalize H.set l (lpR .busy none R d) = H3 at hl3 S3 len3
 have O3 := ownX_keep O S3 (fun i hi => by simp; exact fun e => no (by rw [hi, e]))
 have kv := ownX_val O
 show aLoad false 1 (R 5) _ _
 rw [r5]
 refine ldI (v := v) (S3.get cp (by simpa using np)) rfl kv.2.2 ?_
 refine strMore O3 hL fun v' H5 o5 S5 O5 h5 => ?_
 have nx : ∀ {q : Nat}, o ≠ some q → q ∉ o.toList := fun {q} hq => by
  cases o with
  | none => simp
  | some i => simp; exact fun e => hq (by rw [e])
 have vv := ownX_val O5
 show aStore 1 (R 5) _ _ _
 rw [r5]
 refine qSt (S5.get (S3.get cp (by simpa using np)) (nx nop)) (by simp) vv.1 vv.2.1 fun H6 S6 c6 l6 => ?_
 have hl6 := S6.get (S5.get hl3 (nx no)) (by simpa using np.symm)
 refine ⟨.busy, none, _, _, _, _, _, _, _, hl6, .inl (k _ v' o5 ?_ (List.getElem?_set_self (lt_of_get hl6)) (get_set c6 np) ?_ (by omega))⟩
 ·exact (((S3.weak (by simp)).trans (S5.weak (by simp; intro a ha; exact .inr (.inr ha)))).trans (S6.weak (by simp))).set (.inl (by simp))
 ·refine ownX_keep (ownX_keep O5 S6 fun i hi => ?_) (SameX.refl.set (i := l) (.inl (List.mem_singleton.2 rfl))) fun i hi => ?_
  ·cases hi
   simp
   omega
  ·cases hi
   simp
   omega
set_option maxHeartbeats 800000 in
theorem good7 (hJ : Closed prog main J) {s : SkyR} (hK0 : skyE s ≠ 0 → ∀ H', SameX [] H H' → K (.tuple ⟨[.slice none 0 0, vint (skyE s)]⟩) H')
  (hK1 : skyE s = 0 → ∀ H' v, SameX [] H H' → Sli H' v 1 (rainsB s).length (strL (rainsB s)) → K (.tuple ⟨[v, vint 0]⟩) H') : Good prog J 7 [.agg ⟨s.cells⟩] H K := by
 refine g7 hJ fun ok => ?_
 rw [e7]
 refine qBox (l := s.cells) rfl fun H1 p1 e1 S1 c1 l1 => load_part (c := s.cells) c1 (by simp [SkyR.cells]) rfl rfl (good25 hJ (neqI (cndI (fun h1 => retL_same (nu2 (by simp [unk]) (by simp [unk])) (hK0 h1 H1 S1)) fun h1 => ?_)))
 have h0 : skyE s = 0 := by omega
 have g : skyOk s := by
  unfold skyE at h0
  split at h0
  ·assumption
  ·cases h0
 refine qAl fun H5 p5 e5 S5 c5 l5 => load_part (c := s.cells) (S5.get c1 (by simp)) (by simp [SkyR.cells]) rfl rfl ?_
 refine good26 hJ fun H10 ps S10 cs10 gs => ?_
 have TH : SameX [] H H10 := (S1.trans S5).trans S10
 refine l7_1 hJ (first := []) (cap := [ptr ps 0]) rfl (by decide) ?_
 obtain ⟨R, hRe⟩ : ∃ R : RG, R = RG.p (RG.p (RG.p (RG.p (RG.p (RG.p (RG.p (RG.p (RG.p (RG.p (RG.p (RG.mk (regs [.agg ⟨s.cells⟩]) []) 1 (ptr p1 0)) 2 (Value.slice none 0 0)) 3 (vint 0)) 7 (.agg ⟨s.cells⟩)) 8 (vint (skyE s))) 4 (vint (skyE s))) 9 (vint (skyE s))) 10 (.bool (decide (skyE s ≠ 0)))) 5 (ptr p5 0)) 12 (.agg ⟨s.cells⟩)) 13 (.func (.func 46) ⟨[]⟩ ⟨[ptr ps 0]⟩) := ⟨_, rfl⟩
 rw [← hRe]
 have R5 : R.r 5 = ptr p5 0 := by subst hRe; rfl
 have Rds : R.ds = [] := by subst hRe; rfl
 clear hRe
 have hl11 : (H10 ++ [AObj.deferred] ++ [lpR .ready none R.r H10.length])[H10.length + 1]? = some (lpR .ready none R.r H10.length) := by
  rw [List.append_assoc]
  simp
 have hd11 : (H10 ++ [AObj.deferred] ++ [lpR .ready none R.r H10.length])[H10.length]? = some .deferred := by
  rw [List.append_assoc]
  simp
 have hln : (H10 ++ [AObj.deferred] ++ [lpR .ready none R.r H10.length]).length = H10.length + 2 := by simp
 have S11 : SameX [] H10 (H10 ++ [AObj.deferred] ++ [lpR .ready none R.r H10.length]) := SameX.refl.app.app
 generalize hH11 : H10 ++ [AObj.deferred] ++ [lpR .ready none R.r H10.length] = H11 at hl11 hd11 hln S11
 have UH : SameX [] H H11 := TH.trans S11
 have w5 : H11[p5]? = some (.cells [.slice none 0 0] true 0) := (S10.trans S11).get c5 (by simp)
 have ws : H11[ps]? = some (.cells s.cells true 0) := S11.get cs10 (by simp)
 have b5 := lt_of_get c5
 have bs := lt_of_get cs10
 have h10 := S10.1
 have h1l := S1.1
 have h5l := S5.1
 have hfew := rainsB_few g
 have RD : Rnd J (rainsB s) (.func (.yield (H10.length + 1)) ⟨[]⟩ ⟨[]⟩) [H10.length + 1, p5] H11
   (fun k O H' => ∃ v o, O = o.toList ∧ H'[H10.length + 1]? = some (lpR .ready none R.r H10.length) ∧ H'[p5]? = some (.cells [v] true 0) ∧ OwnX H' 1 (strL ((rainsB s).take k)) ((rainsB s).take k).length v o ∧ ∀ i, o = some i → H11.length ≤ i) (fun H' => False) := by
  refine ⟨by simp; omega, ?_, ?_, ?_⟩
  ·rintro k O H' ⟨v, o, rfl, i1, i2, i3, i4⟩ x hx
   exact ownX_lt i3 x (by simpa using hx)
  ·rintro k O H1 H2 T ⟨v, o, rfl, i1, i2, i3, i4⟩
   refine ⟨v, o, rfl, by rw [T.2 _ (.inl (by omega))]; exact i1, by rw [T.2 _ (.inl (by omega))]; exact i2, ownX_like i3 fun i hi => T.2 i (.inr (by simpa using hi)), i4⟩
  ·rintro k w O Ha Q hw Sa hOO ⟨v, o, rfl, i1, i2, i3, i4⟩ q1 q2
   have hSa := Sa.1
   have hk := (List.getElem?_eq_some_iff.1 hw).1
   refine roundR hJ i1 R5 i2 i3 (by omega) (fun e => by have := i4 _ e; omega) (fun e => by have := i4 _ e; omega) (by rw [List.length_take]; omega) fun Hb v' o' Sb hlb h5' O' ho' => ?_
   refine q1 [o'] Hb (Sb.weak (by simp)) (fun x hx => by rw [List.mem_singleton.1 hx]; exact .inr ho') ⟨v', some o', rfl, hlb, h5', ?_, fun i hi => by cases hi; omega⟩
   rw [List.take_add_one, hw]
   exact O'
 refine good46 hJ g RD ⟨rfl, rfl, rfl⟩ ws (by simp; omega) ⟨_, none, rfl, hl11, w5, ⟨rfl, rfl, .inl ⟨rfl, rfl, rfl⟩⟩, by simp⟩ (fun Hb O Sb _ hi => ?_) fun Hb Sb st => st.elim
 obtain ⟨v, o, rfl, i1, i2, i3, i4⟩ := hi
 rw [List.take_of_length_le (Nat.le_refl _)] at i3
 refine endQnorm i1 (by simp) ?_
 rw [c7_1]
 show aLoad false 1 (R.r 5) _ _
 rw [R5, Rds]
 have hd' := Sb.get hd11 (by simp; omega)
 have vv := ownX_val i3
 refine ldI (v := v) (get_set i2 (by omega)) rfl vv.2.2 ?_
 refine retLdef (get_set hd' (by omega)) (nu2 (ownU i3) (by simp [unk])) ?_
 refine hK1 h0 _ v (((UH.thru Sb (by simp; omega)).set (.inr (by omega))).set (.inr (by omega))) (ownX_sli (ownX_like i3 fun i hi => ?_))
 have := i4 i hi
 rw [List.getElem?_set_ne (by omega), List.getElem?_set_ne (by omega)]
end
section
variable {main : Bool} {J : JT} {H : List AObj} {K : Value → List AObj → Prop} {KV : Value → Prop}
theorem neqStr {a : List UInt8} (hk : KV (.bool false)) : aBin prog .neq 9 (strV a) (strV a) KV := by
 have e : aBin prog .neq 9 (strV a) (strV a) KV = KV (.bool (!((ByteArray.mk ⟨a⟩).toList == (ByteArray.mk ⟨a⟩).toList))) := by kernel_rfl
 rw [e, beq_self_eq_true]
 exact hk
end
section
variable {main : Bool} {J : JT} {h H : List AObj} {K : Value → List AObj → Prop} {KV : Value → Prop}
theorem good9 (hJ : Closed prog main J) {va vb : Value} {L : List (List UInt8)} (sa : Sli H va 1 L.length (strL L)) (sb : Sli H vb 1 L.length (strL L)) (hl : L.length < 1000000) (hK : K (.bool true) H) : Good prog J 9 [va, vb] H K := by
 refine g9 hJ fun ok => ?_
 rw [e9]
 refine lenI sa (lenI sb (neqI (cndI (fun h => absurd rfl h) fun _ => ?_)))
 refine l9_1 hJ (fun i : Nat => L.length - i) (fun i F H' => i ≤ L.length ∧ H' = H ∧ F.ds = [] ∧ F.r 0 = va ∧ F.r 1 = vb ∧ F.r 5 = vint (i : Nat)) ?_ (s := 0)
  (.inl ⟨Nat.zero_le _, rfl, rfl, rfl, rfl, rfl⟩)
 rintro i F H' ⟨hi, rfl, ds, r0, r1, r5⟩ okc hnc
 rw [s9_1, r0, r1, r5, ds]
 refine lenI sa (lssI (cndI (fun hlt => ?_) fun _ => retL_same (by simp [unk]) hK))
 have hu : L[i]? = some L[i] := List.getElem?_eq_getElem (by omega)
 exact strGet rfl sa hu fun pa => strGet rfl sb hu fun pb => neqStr (cnd_false.2 (addI (by omega) ⟨i + 1, by dsimp only; omega, .inl ⟨by omega, rfl, ds, r0, r1, by show vint _ = vint _; congr 1⟩⟩))
def SmlOk (J : JT) (n : Int) (u : List UInt8) : Prop := ∀ (H : List AObj) (K : Value → List AObj → Prop), K (strV u) H → Good prog J 80 [vint n] H K
theorem slC {s u : List UInt8} {lo hi : Int} (h : 0 ≤ lo ∧ lo ≤ hi ∧ hi ≤ s.length) (hu : (s.take hi.toNat).drop lo.toNat = u) (hk : KV (strV u)) : aSlStr (strV s) (some (vint lo)) (some (vint hi)) KV := by
 subst hu
 show match (bif decide ((0 : Int) ≤ lo) then some lo.toNat else none), (bif decide ((0 : Int) ≤ hi) then some hi.toNat else none) with
  | some l, some u => (l ≤ u ∧ u ≤ s.length) ∧ KV (.string ⟨⟨(s.take u).drop l⟩⟩)
  | _, _ => False
 rw [decide_eq_true h.1, decide_eq_true (by omega : (0 : Int) ≤ hi), cond_true, cond_true]
 exact ⟨⟨by omega, by omega⟩, hk⟩
theorem sml1 (hJ : Closed prog main J) : SmlOk J 1 [49] := fun H K hK => g80 hJ fun _ => by
 rw [e80]
 exact lssI (cndI (fun _ => addI (by decide) (slC (u := [49]) (by decide) (by decide +kernel) (retL_same (by simp [unk, strV]) hK))) fun h => absurd (by decide) h)
theorem sml2 (hJ : Closed prog main J) : SmlOk J 2 [50] := fun H K hK => g80 hJ fun _ => by
 rw [e80]
 exact lssI (cndI (fun _ => addI (by decide) (slC (u := [50]) (by decide) (by decide +kernel) (retL_same (by simp [unk, strV]) hK))) fun h => absurd (by decide) h)
theorem sml3 (hJ : Closed prog main J) : SmlOk J 3 [51] := fun H K hK => g80 hJ fun _ => by
 rw [e80]
 exact lssI (cndI (fun _ => addI (by decide) (slC (u := [51]) (by decide) (by decide +kernel) (retL_same (by simp [unk, strV]) hK))) fun h => absurd (by decide) h)
theorem sml4 (hJ : Closed prog main J) : SmlOk J 4 [52] := fun H K hK => g80 hJ fun _ => by
 rw [e80]
 exact lssI (cndI (fun _ => addI (by decide) (slC (u := [52]) (by decide) (by decide +kernel) (retL_same (by simp [unk, strV]) hK))) fun h => absurd (by decide) h)
theorem sml12 (hJ : Closed prog main J) : SmlOk J 12 [49, 50] := fun H K hK => g80 hJ fun _ => by
 rw [e80]
 exact lssI (cndI (fun h => absurd h (by decide)) fun _ => mulI (by decide) (mulI (by decide) (addI (by decide) (slC (u := [49, 50]) (by decide) (by decide +kernel) (retL_same (by simp [unk, strV]) hK)))))
theorem sml20 (hJ : Closed prog main J) : SmlOk J 20 [50, 48] := fun H K hK => g80 hJ fun _ => by
 rw [e80]
 exact lssI (cndI (fun h => absurd h (by decide)) fun _ => mulI (by decide) (mulI (by decide) (addI (by decide) (slC (u := [50, 48]) (by decide) (by decide +kernel) (retL_same (by simp [unk, strV]) hK)))))
theorem good45 (hJ : Closed prog main J) {n : Int} {u : List UInt8} (h0 : 0 ≤ n ∧ n < 100) (hs : SmlOk J n u) (hK : K (strV u) H) : Good prog J 45 [vint n] H K := by
 refine g45 hJ fun _ => ?_
 rw [e45]
 refine g73 hJ fun _ => ?_
 rw [e73]
 refine g79 hJ fun _ => ?_
 rw [e79]
 refine eqlI (cndI (fun _ => leqI (cndI (fun _ => lssI (hold.2 ?_)) fun h => absurd h0.1 h)) fun h => absurd rfl h)
 rw [s79_1]
 show cnd (.bool (decide (n < 100))) _ _
 refine cndI (fun _ => ?_) fun h => absurd h0.2 h
 show Good prog J 80 [vint n] _ _
 refine hs _ _ ?_
 refine retL_same (by simp [unk, strV, pack]) ?_
 refine retL_same (by simp [unk, strV, pack]) ?_
 exact retL_same (by simp [unk, strV, pack]) hK
theorem callC {g : FuncId} {args cap : List Value} (hg : Nat.blt g prog.funcs.size = true) (hk : Good prog J g (args ++ cap) H K) : callV prog (Good prog J) (.func (.func g) ⟨[]⟩ ⟨cap⟩) args H K := by
 show (bif Nat.blt g prog.funcs.size then Good prog J g ([] ++ args ++ cap) H K else False)
 rw [hg, cond_true, List.nil_append]
 exact hk
theorem callI (hJ : Closed prog main J) {n : Int} {u : List UInt8} (h0 : 0 ≤ n ∧ n < 100) (hs : SmlOk J n u) (hK : K (strV u) H) : callV prog (Good prog J) (.func (.func 45) ⟨[]⟩ ⟨[]⟩) [vint n] H K :=
 callC (by kernel_rfl) (good45 hJ h0 hs hK)
theorem catC {t : TypeId} {u v : List UInt8} (hl : u.length + v.length ≤ 1000000) (hk : KV (strV (u ++ v))) : aBin prog .add t (strV u) (strV v) KV := by
 have hrm : (2000000 : Nat) < room := by decide
 show (ByteArray.mk ⟨u⟩).size + (ByteArray.mk ⟨v⟩).size ≤ room ∧ KV (.string (ByteArray.mk ⟨u⟩ ++ ByteArray.mk ⟨v⟩))
 have e1 : (ByteArray.mk ⟨v⟩).size = v.length := rfl
 have e2 : (ByteArray.mk ⟨u⟩).size = u.length := rfl
 have e3 : ByteArray.mk ⟨u⟩ ++ ByteArray.mk ⟨v⟩ = ByteArray.mk ⟨u ++ v⟩ := by
  apply ByteArray.ext
  rw [ByteArray.data_append]
  apply Array.ext'
  rw [Array.toList_append]
 rw [e1, e2, e3]
 exact ⟨by omega, hk⟩
def textG : List UInt8 := [103, 114, 97, 115, 115, 32, 49, 50, 32, 111, 102, 32, 50, 48, 32, 103, 114, 111, 119, 115, 32, 49, 32, 116, 111, 32, 52, 10, 98, 101, 108, 111, 119, 32, 51, 32, 115, 108, 101, 101, 112, 115, 32, 50, 10, 115, 107, 121, 32, 51, 32, 100, 114, 121, 32, 50, 32, 119, 101, 116, 32, 50, 10]
theorem good20 (hJ : Closed prog main J) (hK : ∀ H', SameX [] H H' → K (.tuple ⟨[strV textG, vint 0]⟩) H') : Good prog J 20 [.agg ⟨mead.cells⟩, .agg ⟨seas.cells⟩] H K := by
 refine g20 hJ fun ok => ?_
 rw [e20]
 refine qBox (l := mead.cells) rfl fun H1 p4 e1 S1 c4 l1 => qBox (l := seas.cells) rfl fun H2 p5 e2 S2 c5 l2 => ?_
 have c42 := S2.get c4 (by simp)
 have T2 := S1.trans S2
 have b4 := lt_of_get c42
 have b5 := lt_of_get c5
 have sb : ∀ {H'}, SameX [] H2 H' → SameB (some [p4, p5]) H2 H' := fun S => sbTwo S b4 b5 (by simp) (by simp)
 refine ⟨[p4, p5], load_part (c := mead.cells) c42 (by simp [Pas.cells]) rfl rfl ⟨by simp [RdOk, ptrBlk], load_part (c := seas.cells) c5 (by simp [SkyR.cells]) rfl rfl ⟨by simp [RdOk, ptrBlk], ?_⟩⟩⟩
 refine good6 hJ ⟨sb SameX.refl, good25 hJ ⟨sb SameX.refl, by decide, fillP2 ⟨rfl, rfl⟩ ⟨rfl, rfl⟩ (qNew fun H3 p3 e3 S3 c3 l3 => ⟨sb S3, ?_⟩)⟩⟩
 refine good34 hJ (ownX_sli (ownX_new (s := 1) (n := 2) c3 rfl rfl)) ⟨sb S3, ?_⟩
 have T3 := T2.trans S3
 rw [show fst2 (pasE mead) (skyE seas) = 0 from by decide +kernel]
 refine neqI (cndI (fun h => absurd rfl h) fun _ => ?_)
 have c43 := S3.get c42 (by simp)
 have c53 := S3.get c5 (by simp)
 have rd4 : ∀ {o : Nat}, RdOk (some [p4, p5]) (ptrBlk (ptr p4 o)) := by simp [RdOk, ptrBlk]
 have rd5 : ∀ {o : Nat}, RdOk (some [p4, p5]) (ptrBlk (ptr p5 o)) := by simp [RdOk, ptrBlk]
 have r0 : SameB (some [p4, p5]) H3 H3 := fun _ _ => rfl
 refine ⟨[p4, p5], offI (ldI (v := vint 12) c43 rfl rfl ⟨rd4, offI (ldI (v := vint 20) c43 rfl rfl ⟨rd4, offI (ldI (v := vint 1) c43 rfl rfl ⟨rd4, offI (ldI (v := vint 4) c43 rfl rfl ⟨rd4, offI (ldI (v := vint 3) c43 rfl rfl ⟨rd4, offI (ldI (v := vint 2) c43 rfl rfl ⟨rd4, offI (ldI (v := vint 3) c53 rfl rfl ⟨rd5, offI (ldI (v := vint 2) c53 rfl rfl ⟨rd5, offI (ldI (v := vint 2) c53 rfl rfl ⟨rd5, ?_⟩)⟩)⟩)⟩)⟩)⟩)⟩)⟩)⟩)⟩
 refine callI hJ (by decide) (sml12 hJ) ⟨r0, catC (u := [103, 114, 97, 115, 115, 32]) (by decide) (catC (v := [32, 111, 102, 32]) (by decide) ?_)⟩
 refine callI hJ (by decide) (sml20 hJ) ⟨r0, catC (by decide) (catC (v := [32, 103, 114, 111, 119, 115, 32]) (by decide) ?_)⟩
 refine callI hJ (by decide) (sml1 hJ) ⟨r0, catC (by decide) (catC (v := [32, 116, 111, 32]) (by decide) ?_)⟩
 refine callI hJ (by decide) (sml4 hJ) ⟨r0, catC (by decide) (catC (v := [10, 98, 101, 108, 111, 119, 32]) (by decide) ?_)⟩
 refine callI hJ (by decide) (sml3 hJ) ⟨r0, catC (by decide) (catC (v := [32, 115, 108, 101, 101, 112, 115, 32]) (by decide) ?_)⟩
 refine callI hJ (by decide) (sml2 hJ) ⟨r0, catC (by decide) (catC (v := [10, 115, 107, 121, 32]) (by decide) ?_)⟩
 refine callI hJ (by decide) (sml3 hJ) ⟨r0, catC (by decide) (catC (v := [32, 100, 114, 121, 32]) (by decide) ?_)⟩
 refine callI hJ (by decide) (sml2 hJ) ⟨r0, catC (by decide) (catC (v := [32, 119, 101, 116, 32]) (by decide) ?_)⟩
 refine callI hJ (by decide) (sml2 hJ) ⟨r0, catC (by decide) (catC (v := [10]) (by decide) ?_)⟩
 exact retL_same (nu2 (by simp [unk, strV]) (by simp [unk])) (hK H3 T3)
end
end Go.Proofs.YthnccaajpdnndaaDoor
namespace Go.Proofs.YthnccaajpdnndaaDoor
open Go.Conc Go.Conc.Lib Go.Proofs.Tryd
set_option maxRecDepth 100000
structure RU (f : RG) (p pl ps ph fI k : Nat) : Prop where
 ds : f.ds = []
 r3 : f.r 3 = ptr pl 0
 r4 : f.r 4 = ptr ps 0
 r5 : f.r 5 = ptr ph 0
 r13 : f.r 13 = ptr fI 0
 r14 : f.r 14 = ptr p 0
 r45 : f.r 45 = vint (1 : Nat)
 r46 : f.r 46 = vint (k : Nat)
section
variable {J : JT} {main : Bool} {m : Nat} {h : List AObj} {FC : Frm} {ρ0 : Env} {fs : List Frame} {b : FB} {k0 : List Item} {f : RG} {p pl ps ph fI : Nat} {lv : Value} {q : Pas}
theorem roundU (hJ : Closed prog main J) (hk : b.kind ≠ .early) (hb : b.tag = 19) (hm : m ≤ h.length) {k : Nat} (hk2 : k < 1) (R : RU f p pl ps ph fI k)
  (hnext : ∀ f', RU f' p pl ps ph fI k → f'.r 15 = ptr h.length 0 → At J 75 b fs FC ρ0 m (.code (.seq (subC [1, 1, 1, 1, 1, 1, 1, 0, 1, 0, 0, 1, 1, 0, 0, 1, 0] (codeOf f19)) (.seq (subC [1, 1, 1, 1, 1, 1, 1, 0, 1, 0, 0, 1, 1, 0, 0, 1, 1, 0] (codeOf f19)) (.region 23 ops19_2 false))) :: .inBlock 3 :: .code (subC [1, 1, 1, 1, 1, 1, 1, 0, 1, 0, 0, 1, 1, 1] (codeOf f19)) :: k0) f' (h ++ [AObj.cells [vint (k : Nat)] true 0])) :
  At J 75 b fs FC ρ0 m (.code (subC [1, 1, 1, 1, 1, 1, 1, 0, 1, 0, 0] (codeOf f19)) :: k0) f h := by
 obtain ⟨ds, r3, r4, r5, r13, r14, r45, r46⟩ := R
 rw [round19]
 refine At.seq hJ (At.piece (Q := fun e f' h' => e = .normal ∧ f' = f.p 47 (.bool true) ∧ h' = h) hb hk (W_sound hJ mixed _ ?_) hm (Nat.le_refl _) ?_)
 ·rw [q19_2, r45, r46]
  refine lssI ⟨rfl, ?_, rfl⟩
  have : ((k : Int) < ((1 : Nat) : Int)) := by omega
  rw [decide_eq_true this]
 rintro e f1 h1 ⟨rfl, rfl, rfl⟩
 refine .inl ⟨rfl, At.seq hJ (At.piece (Q := fun e f' h' => e = .normal ∧ f' = f.p 47 (.bool true) ∧ h' = h1) hb hk (W_sound hJ mixed _ ?_) hm (Nat.le_refl _) ?_)⟩
 ·rw [q19_3]
  exact cnd_true.2 ⟨rfl, rfl, rfl⟩
 rintro e f2 h2 ⟨rfl, rfl, rfl⟩
 refine .inl ⟨rfl, At.seq hJ (At.block hJ (At.seq hJ (At.piece (Q := fun e f' h' => e = .normal ∧ RU f' p pl ps ph fI k ∧ f'.r 15 = ptr h2.length 0 ∧ h' = h2 ++ [AObj.cells [vint (k : Nat)] true 0]) hb hk (W_sound hJ mixed _ ?_) hm (Nat.le_refl _) ?_)))⟩
 ·rw [q19_4]
  rw [show (f.p 47 (.bool true)).r 46 = vint (k : Nat) from r46]
  exact alloc1 rfl rfl ⟨rfl, ⟨ds, r3, r4, r5, r13, r14, r45, r46⟩, rfl, rfl⟩
 rintro e f3 h3 ⟨rfl, R3, r15, rfl⟩
 exact .inl ⟨rfl, hnext f3 R3 r15⟩
theorem endU (hJ : Closed prog main J) (hk : b.kind ≠ .early) (hb : b.tag = 19) (hm : m ≤ h.length) {k : Nat} (hk2 : k < 1) (R : RU f p pl ps ph fI k)
  (hnext : ∀ f', RU f' p pl ps ph fI (k + 1) → At J 75 b fs FC ρ0 m k0 f' h) : At J 75 b fs FC ρ0 m (.code (subC [1, 1, 1, 1, 1, 1, 1, 0, 1, 0, 0, 1, 1, 1] (codeOf f19)) :: k0) f h := by
 obtain ⟨ds, r3, r4, r5, r13, r14, r45, r46⟩ := R
 refine At.piece (Q := fun e f' h' => e = .normal ∧ RU f' p pl ps ph fI (k + 1) ∧ h' = h) hb hk (W_sound hJ mixed _ ?_) hm (Nat.le_refl _) ?_
 ·rw [q19_7, r46]
  exact addI (by omega) ⟨rfl, ⟨ds, r3, r4, r5, r13, r14, r45, rfl⟩, rfl⟩
 rintro e f1 h1 ⟨rfl, R1, rfl⟩
 exact .inl ⟨rfl, hnext f1 R1⟩
end
section
variable {W0 : World} {Post : Value → World → Prop} {G : Grp} {m : Nat} {h : List AObj} {FC : Frm} {ρ0 : Env} {fs : List Frame} {b : FB} {k0 : List Item} {f : RG} {p pl ps ph fI : Nat} {lv : Value} {q : Pas}
theorem restU (hty : G.ty = wgLink.tWg) (hk : b.kind ≠ .early) (hb : b.tag = 19) (hm : m ≤ h.length) (R : RU f p pl ps ph fI 0) (hg : GrpAt h p 5)
  (hdone : ∀ f', f'.ds = [] → f'.r 13 = ptr fI 0 → At (JG prog W0 Post G) 75 b fs FC ρ0 m (.code (subC [1, 1, 1, 1, 1, 1, 1, 1, 1] (codeOf f19)) :: k0) f' (h.set p (.group 12))) :
  At (JG prog W0 Post G) 75 b fs FC ρ0 m (.inRegion ops19_2 [] :: .inBlock 3 :: .code (subC [1, 1, 1, 1, 1, 1, 1, 0, 1, 0, 0, 1, 1, 1] (codeOf f19)) :: .inLoop (subC [1, 1, 1, 1, 1, 1, 1, 0, 1, 0, 0] (codeOf f19)) :: .inBlock 2 :: .code (.seq (subC [1, 1, 1, 1, 1, 1, 1, 1, 0] (codeOf f19)) (subC [1, 1, 1, 1, 1, 1, 1, 1, 1] (codeOf f19))) :: k0) f h := by
 have hJ := JG.closed prog W0 Post G
 refine At.ops_nil hJ (At.inBlock hJ (endU hJ hk hb hm (by omega) R fun f4 R4 => At.inLoop hJ ?_))
 obtain ⟨ds, r3, r4, r5, r13, r14, r45, r46⟩ := R4
 rw [round19]
 refine At.seq hJ (At.piece (Q := fun e f' h' => e = .normal ∧ f' = RG.p f4 47 (.bool false) ∧ h' = h) hb hk (W_sound hJ mixed _ ?_) hm (Nat.le_refl _) ?_)
 ·rw [q19_2, r45, r46]
  exact lssI ⟨rfl, rfl, rfl⟩
 rintro e f5 h5 ⟨rfl, rfl, rfl⟩
 refine .inl ⟨rfl, At.seq hJ (At.piece (Q := fun e f' h' => e = .exit 2 ∧ f' = RG.p f4 47 (.bool false) ∧ h' = h5) hb hk (W_sound hJ mixed _ ?_) hm (Nat.le_refl _) ?_)⟩
 ·rw [q19_3]
  exact cnd_false.2 ⟨rfl, rfl, rfl⟩
 rintro e f6 h6 ⟨rfl, rfl, rfl⟩
 refine .inr ⟨2, .code (.seq (subC [1, 1, 1, 1, 1, 1, 1, 1, 0] (codeOf f19)) (subC [1, 1, 1, 1, 1, 1, 1, 1, 1] (codeOf f19))) :: k0, rfl, by simp [exitTo], ?_⟩
 refine At.seq hJ (At.piece (Q := fun e f' h' => e = .normal ∧ f'.ds = [] ∧ f'.r 13 = ptr fI 0 ∧ h' = h6.set p (.group 12)) hb hk (W_sound hJ mixed _ ?_) hm (Nat.le_refl _) ?_)
 ·rw [q19_8, show (RG.p f4 47 (.bool false)).r 14 = ptr p 0 from r14]
  exact good_wwait hty hg ⟨rfl, ds, r13, rfl⟩
 rintro e f7 h7 ⟨rfl, ds7, r7, rfl⟩
 exact .inl ⟨rfl, hdone f7 ds7 r7⟩
theorem hireU (hty : G.ty = wgLink.tWg) (hk : b.kind ≠ .early) (hb : b.tag = 19) (hm : m ≤ h.length) (_hpm : p < m) (hfm : fI < m) (R : RU f p pl ps ph fI 0) {s : SkyR} {heads : Int} (L : LsOk [q]) (fo : skyOk s) (hh : 0 ≤ heads ∧ heads ≤ 40) (d : Nat) (hd : s.days = (d : Int) + 1) (hG : G = mkG G.ty G.wg (ρ0.blk fI) (foundR [q] s heads d 0)) (_hwg : ρ0.blk p = G.wg)
  (hpl : h[pl]? = some (.cells [lv] true 0)) (hps : h[ps]? = some (.cells s.cells true 0)) (hph : h[ph]? = some (.cells [vint heads] true 0)) (hf : h[fI]? = some (.cells [nilS, nilS, nilS] true 0)) (hsW : SliE (lentW (h.set p (.group 4) ++ [AObj.cells [vint (0 : Nat)] true 0]) fI [nilS, nilS, nilS]) lv 6 Pas.cells [q]) (hg : GrpAt h p 1)
  (hdone : ∀ (ρ : Env) (w : World) (ft : Foot) (f' : RG), HRel ρ (h.set p (.group 4) ++ [AObj.cells [vint (0 : Nat)] true 0]) FC w ft → Env.upto m ρ0 ρ → f'.ds = [] → f'.r 13 = ptr fI 0 → At (JG prog W0 Post G) 75 b fs (keepG w ft (ρ.blk fI)) ρ (h.set p (.group 4) ++ [AObj.cells [vint (0 : Nat)] true 0]).length (.code (subC [1, 1, 1, 1, 1, 1, 1, 1, 1] (codeOf f19)) :: k0) f' (lentM (h.set p (.group 4) ++ [AObj.cells [vint (0 : Nat)] true 0]) p fI 12)) :
  At (JG prog W0 Post G) 75 b fs FC ρ0 m (.code (subC [1, 1, 1, 1, 1, 1, 1, 0, 1, 0, 0] (codeOf f19)) :: .inLoop (subC [1, 1, 1, 1, 1, 1, 1, 0, 1, 0, 0] (codeOf f19)) :: .inBlock 2 :: .code (.seq (subC [1, 1, 1, 1, 1, 1, 1, 1, 0] (codeOf f19)) (subC [1, 1, 1, 1, 1, 1, 1, 1, 1] (codeOf f19))) :: k0) f h := by
 have hJ := JG.closed prog W0 Post G
 have hpl' := lt_of_get hg.here
 have hne : ∀ {i : Nat} {c : List Value} {wr : Bool} {sz : Nat}, h[i]? = some (.cells c wr sz) → i ≠ p := fun hi e => by
  rw [e, hg.here] at hi
  cases hi
 refine roundU hJ hk hb hm (by omega) R fun f1 R1 r15 => ?_
 obtain ⟨ds, r3, r4, r5, r13, r14, r45, r46⟩ := R1
 have hm1 : m ≤ (h ++ [AObj.cells [vint (0 : Nat)] true 0]).length := by simp; omega
 refine At.seq hJ (At.piece (Q := fun e f' h' => e = .normal ∧ RU f' p pl ps ph fI 0 ∧ f'.r 15 = ptr h.length 0 ∧ h' = h ++ [AObj.cells [vint (0 : Nat)] true 0]) hb hk (W_sound hJ mixed _ ?_) hm1 (Nat.le_refl _) ?_)
 ·rw [q19_5, r15]
  have c15 : (h ++ [AObj.cells [vint (0 : Nat)] true 0])[h.length]? = some (.cells [vint (0 : Nat)] true 0) := by simp
  exact ldI (v := vint (0 : Nat)) c15 rfl rfl (gtrI (cnd_false.2 ⟨rfl, ⟨ds, r3, r4, r5, r13, r14, r45, r46⟩, r15, rfl⟩))
 rintro e f2 h2 ⟨rfl, R2, r15, rfl⟩
 obtain ⟨ds, r3, r4, r5, r13, r14, r45, r46⟩ := R2
 refine .inl ⟨rfl, At.seq hJ (At.piece (Q := fun e f' h' => e = .normal ∧ RU f' p pl ps ph fI 0 ∧ f'.r 15 = ptr h.length 0 ∧ h' = h.set p (.group 4) ++ [AObj.cells [vint (0 : Nat)] true 0]) hb hk (W_sound hJ mixed _ ?_) hm1 (Nat.le_refl _) ?_)⟩
 ·rw [q19_6, r14]
  refine good_wadd hty (grp_snoc hg) ⟨rfl, ⟨ds, r3, r4, r5, r13, r14, r45, r46⟩, r15, ?_⟩
  rw [List.set_append_left _ _ hpl']
 rintro e f3 h3 ⟨rfl, R3, r15, rfl⟩
 obtain ⟨ds, r3, r4, r5, r13, r14, r45, r46⟩ := R3
 generalize hT : h.set p (.group 4) ++ [AObj.cells [vint (0 : Nat)] true 0] = hh' at *
 have gT : GrpAt hh' p 4 := hT ▸ grp_snoc (hg.set (by omega))
 have get : ∀ {i : Nat} {c : List Value} {wr : Bool} {sz : Nat}, h[i]? = some (.cells c wr sz) → hh'[i]? = some (.cells c wr sz) := fun {i c wr sz} hi => by
  rw [← hT, List.getElem?_append_left (by rw [List.length_set]; exact lt_of_get hi), List.getElem?_set_ne (Ne.symm (hne hi))]
  exact hi
 have ga : hh'[h.length]? = some (.cells [vint (0 : Nat)] true 0) := by
  rw [← hT]
  simp
 have hlT : hh'.length = h.length + 1 := by
  rw [← hT]
  simp
 have lfI := lt_of_get hf
 have nf : ∀ {i : Nat} {c : List Value} {wr : Bool} {sz : Nat}, hh'[i]? = some (.cells c wr sz) → c.length ≠ 3 → i ≠ fI := fun hi hc e => by
  rw [e, get hf] at hi
  cases hi
  exact hc rfl
 have nfs : ps ≠ fI := fun e => by
  rw [e, hf] at hps
  simp [SkyR.cells, nilS, vint] at hps
 have np : ∀ {i : Nat} {c : List Value} {wr : Bool} {sz : Nat}, hh'[i]? = some (.cells c wr sz) → i ≠ p := fun hi e => by
  rw [e, gT.here] at hi
  cases hi
 refine .inl ⟨rfl, At.region hJ ?_⟩
 rw [show List.range ops19_2.size = [0, 1] from by rw [z19_2]; rfl]
 obtain ⟨u1, u2, u3, u4, u5⟩ := o19_2_0 (J := JG prog W0 Post G)
 obtain ⟨w1, w2, w3, w4, w5⟩ := o19_2_1 (J := JG prog W0 Post G)
 refine At.op hJ hk u1 u3 (u4 _) ?_
 rw [u5, u2, r14, r3, r4, r15, r5, r13]
 refine ⟨rfl, fun _ => ?_⟩
 refine At.hireG hk w1 (w4 _) w5 w2 (cap := [ptr p 0, ptr pl 0, ptr ps 0, ptr h.length 0, ptr ph 0, ptr fI 0]) rfl (by kernel_rfl) gT (get hf) (fun ρ w ft HR hu hwgρ => ?_) fun ρ w ft HR hu hwgρ => ?_
 ·refine worker_goes L fo hh d hd ⟨⟨_, lentW_cells (get hpl) (nf (get hpl) (by simp))⟩, hsW, ⟨_, lentW_cells (get hps) nfs⟩, ⟨_, lentW_cells ga (nf ga (by simp))⟩, ⟨_, lentW_cells (get hph) (nf (get hph) (by simp))⟩, ?_⟩ (by rw [lentW_len]; omega) hty ?_ hwgρ HR
  ·unfold lentW
   rw [List.getElem?_set_self (by rw [frz_len]; omega)]
  ·rw [(hu fI hfm).1]
   exact hG
 ·have gM : GrpAt (lentM hh' p fI 5) p 5 := by
   refine ⟨?_, fun x z hx => ?_, by omega⟩
   ·unfold lentM
    rw [List.getElem?_set_self (by rw [List.length_set, frz_len]; omega)]
   ·rcases lentM_get hx with ⟨e, _⟩ | ⟨_, _, e⟩ | ⟨_, _, y, _, e⟩
    ·exact e
    ·cases e
    ·cases y <;> cases e
  refine restU hty hk hb (by rw [lentM_len]; exact Nat.le_refl _) (p := p) (pl := pl) (ps := ps) (ph := ph) (fI := fI) ⟨ds, r3, r4, r5, r13, r14, r45, r46⟩ gM fun f' ds' r13' => ?_
  have e : (lentM hh' p fI 5).set p (.group 12) = lentM hh' p fI 12 := by
   unfold lentM
   rw [List.set_set]
  rw [e]
  exact hdone ρ w ft f' HR hu ds' r13'
end
section
variable {W0 : World} {Post : Value → World → Prop} {h : List AObj} {K : Value → List AObj → Prop}
theorem turn1 {q : Pas} {lv : Value} {s : SkyR} {heads : Int} (fq : pasOk q) (fo : skyOk s) (hh : 0 ≤ heads ∧ heads ≤ 40) (d : Nat) (hd : s.days = (d : Int) + 1) (hl : SliE h lv 6 Pas.cells [q]) (hA : AnsT (unch h) K (foundR [q] s heads d 0)) : Good prog (J2 prog W0 Post) 19 [lv, .agg ⟨s.cells⟩, vint heads] h K := by
 have hJ2 := J2.closed prog W0 Post
 have L : LsOk [q] := ⟨⟨by simp, by simp⟩, fun x hx => by
  simp only [List.mem_cons, List.not_mem_nil, or_false] at hx
  exact hx ▸ fq⟩
 refine good_of_sem hJ2 at19 body19 (by kernel_rfl) (Nat.le_of_ble_eq_true rfl) fun ok => ?_
 rw [show f19.ntmps = 75 from by kernel_rfl, show f19.results.toList = [.tmp 6, .tmp 7] from by kernel_rfl]
 refine trunc_sound hJ2 mixed 6 (codeOf f19) (by kernel_rfl) (front19 hJ2 L fo hh hl fun F H pl ps ph fI M => ?_)
 intro b a k fs LL ρ FC w ft hb hk hL A R hn hcont
 suffices hAt : At (J2 prog W0 Post) 75 b fs FC ρ (unch H).length (.code (subC [1, 1, 1, 1, 1, 1] (codeOf f19)) :: k) F (unch H) from At.unch hAt a ρ w ft A R (Env.upto_refl _ _) (by rw [unch_len]; exact Nat.le_refl _)
 have M2 : MidT (unch h) (unch H) F pl ps ph fI lv s heads := by
  refine ⟨⟨by rw [unch_len, unch_len]; exact M.S.1, fun i hi _ => ?_⟩, M.ds, M.r3, M.r4, M.r5, M.r13, unchC M.hl, unchC M.hs, unchC M.hh, unchC M.hf, by rw [unch_len]; exact M.fI⟩
  rw [unch_len] at hi
  unfold unch
  rw [List.getElem?_map, List.getElem?_map, M.S.2 i hi (by simp)]
 have nog : ∀ (q z : Nat), (unch H)[q]? ≠ some (.group z) := fun x z e => by
  obtain ⟨y, _, e⟩ := unch_get e
  cases y <;> cases e
 have hl2 : SliE (unch h) lv 6 Pas.cells [q] := unch_sli hl
 have hlh : (unch h).length = h.length := unch_len
 have upH : ∀ {i : Nat} {o : AObj}, (unch h)[i]? = some o → unchO o = o := fun e => by
  obtain ⟨y, _, rfl⟩ := unch_get e
  exact unchO_twice y
 clear A R hn M
 generalize unch H = U at M2 nog
 rw [shape19]
 have lfI := lt_of_get M2.hf
 have lpl := lt_of_get M2.hl
 refine At.seq hJ2 (At.region hJ2 ?_)
 rw [show List.range ops19_1.size = [0] from by rw [z19_1]; rfl]
 obtain ⟨u1, u2, u3, u4, u5⟩ := o19_1_0 (J := J2 prog W0 Post)
 obtain ⟨ti, z, hi, hz, hzl, _⟩ := zc_some wg_zero
 refine At.group hk u1 u3 (u4 _) opg19 hi hz (by rw [← Array.toList_inj, hzl]) nog lfI (foundR [q] s heads d 0) fun ρ1 G hu1 hty hG hwg => ?_
 have hJ := JG.closed prog W0 Post G
 rw [u2]
 replace hG : G = mkG G.ty G.wg (ρ1.blk fI) (foundR [q] s heads d 0) := by
  rw [hty]
  exact hG
 have get : ∀ {i : Nat} {c : List Value} {wr : Bool} {sz : Nat}, U[i]? = some (.cells c wr sz) → (U ++ [AObj.group 1])[i]? = some (.cells c wr sz) := fun hi => by
  rw [List.getElem?_append_left (lt_of_get hi)]
  exact hi
 have hg : GrpAt (U ++ [AObj.group 1]) U.length 1 := by
  refine ⟨by simp, fun x z hx => ?_, by omega⟩
  rcases snoc_get hx with ⟨e, _⟩ | hx
  ·exact e
  ·exact absurd hx (nog x z)
 have slL : SliE U lv 6 Pas.cells [q] := M2.S.sli hl2 (by simp)
 have kk := sliK hl
 refine At.ops_nil hJ (At.seq hJ (At.seq hJ (At.piece (Q := fun e f' h' => e = .normal ∧ RU f' U.length pl ps ph fI 0 ∧ h' = U ++ [AObj.group 1]) hb hk (W_sound hJ mixed _ ?_) (by simp) (Nat.le_refl _) ?_)))
 ·rw [q19_1, show (F.putO (some 14) (ptr U.length 0)).r 3 = ptr pl 0 from M2.r3]
  refine ldI (v := lv) (get M2.hl) rfl kk.2.2 ?_
  have slg : SliE (U ++ [AObj.group 1]) lv 6 Pas.cells [q] := sli_app slL
  rw [sliE_len slg]
  exact ⟨rfl, ⟨M2.ds, M2.r3, M2.r4, M2.r5, M2.r13, rfl, rfl, rfl⟩, rfl⟩
 rintro e f1 h1 ⟨rfl, R1, rfl⟩
 refine .inl ⟨rfl, At.block hJ (At.loop hJ ?_)⟩
 have e4 : (U ++ [AObj.group 1]).set U.length (.group 4) = U ++ [AObj.group 4] := by simp
 -- what was a list in U is one while it is lent
 have keep : ∀ {i : Nat} {c : List Value} {wr : Bool} {sz : Nat}, (unch h)[i]? = some (.cells c wr sz) → ((U ++ [AObj.group 1]).set U.length (.group 4) ++ [AObj.cells [vint (0 : Nat)] true 0])[i]? = some (.cells c wr sz) ∧ i ≠ U.length ∧ i ≠ fI := fun {i c wr sz} hi => by
  have h1 := M2.S.get hi (by simp)
  have h2 := lt_of_get hi
  have h3 := lt_of_get h1
  have := M2.fI
  refine ⟨?_, by omega, by omega⟩
  rw [e4, List.getElem?_append_left (by simp; omega), List.getElem?_append_left h3]
  exact h1
 refine hireU hty hk hb (by simp) (by omega) (by omega) R1 L fo hh d hd hG hwg (get M2.hl) (get M2.hs) (get M2.hh) (get M2.hf) (sli_frz hl2 fun i c wr sz hi => ?_) hg fun ρ2 w2 ft2 f2 HR hu2 ds2 r13 => ?_
 ·obtain ⟨k1, k2, k3⟩ := keep hi
  exact ⟨_, lentW_cells k1 k3⟩
 generalize hT : (U ++ [AObj.group 1]).set U.length (.group 4) ++ [AObj.cells [vint (0 : Nat)] true 0] = hh' at *
 have gf : hh'[fI]? = some (.cells [nilS, nilS, nilS] true 0) := by
  rw [← hT, e4, List.getElem?_append_left (by simp; omega), List.getElem?_append_left lfI]
  exact M2.hf
 have hlT : hh'.length = U.length + 2 := by
  rw [← hT]
  simp
 rw [show lentM hh' U.length fI 12 = lentM hh' U.length fI 12 ++ ([] : List AObj) from (List.append_nil _).symm]
 refine At.join HR gf (by omega) (by rw [(hu2 fI (by omega)).1]; exact hG) (fun o ho => absurd ho (by simp)) (fun z hz => absurd hz (by simp)) fun ρ3 hu3 => ?_
 generalize hHT : thawG hh' ([] : List AObj) fI (cellsOf (hh'.length + ([] : List AObj).length) (foundR [q] s heads d 0)) (objOf (foundR [q] s heads d 0)) = HT
 have hlHT : HT.length = hh'.length + 1 := by
  rw [← hHT, thawG_len]
  rfl
 have S : SameX [] (unch h) HT := by
  refine ⟨by have := M2.S.1; omega, fun i hi _ => ?_⟩
  have h1 := M2.S.2 i hi (by simp)
  have h2 := M2.S.1
  have h3 := M2.fI
  rw [← hHT]
  unfold thawG
  rw [List.getElem?_append_left (by rw [List.length_set, unch_len]; omega), List.getElem?_set_ne (by omega)]
  have g0 : (unch hh')[i]? = (hh'[i]?).map unchO := by
   unfold unch
   rw [List.getElem?_map]
  rw [g0, ← hT, e4, List.getElem?_append_left (by simp; omega), List.getElem?_append_left (by omega), h1]
  cases ho : (unch h)[i]? with
  | none => rfl
  | some o => rw [Option.map_some, upH ho]
 have t1 : HT[fI]? = some (.cells (cellsOf hh'.length (foundR [q] s heads d 0)) false 0) := by
  rw [← hHT]
  unfold thawG
  rw [List.getElem?_append_left (by rw [List.length_set, unch_len]; omega), List.getElem?_set_self (by rw [unch_len]; omega)]
  rfl
 have t2 : HT[hh'.length]? = some (objOf (foundR [q] s heads d 0)) := by
  rw [← hHT]
  unfold thawG
  rw [List.getElem?_append_right (by rw [List.length_set, unch_len]; omega), List.length_set, unch_len]
  simp
 intro a' ρ' w' ft' A' R' hu' hm'
 have hc : contX pl19t prog (J2 prog W0 Post) 75 h.length 19 ct19t [1, 1, 1, 1, 1, 1, 1, 1, 1] (codeOf f19) [] (RetQ prog [.tmp 6, .tmp 7] h.length K) = RetQ prog [.tmp 6, .tmp 7] h.length K := by kernel_rfl
 have tl : Sem (J2 prog W0 Post) 75 h.length 19 (subC [1, 1, 1, 1, 1, 1, 1, 1, 1] (codeOf f19)) f2 HT (RetQ prog [.tmp 6, .tmp 7] h.length K) := by
  rw [← hc]
  exact W_sound hJ2 mixed _ (tail19 hJ2 ds2 r13 t1 t2 S hA)
 have up : Env.upto h.length ρ ρ' := by
  have h1 := M2.S.1
  rw [hlh] at h1
  refine Env.upto_trans (Env.upto_le hu1 h1) (Env.upto_trans (Env.upto_le hu2 (by omega)) (Env.upto_trans (Env.upto_le hu3 (by omega)) (Env.upto_le hu' ?_)))
  show h.length ≤ hh'.length + 1
  omega
 exact tl b a' k fs LL ρ' FC w' _ hb hk hL A' R' (by rw [← hlh]; exact S.1) fun e f2 h2' ρ2 w2 ft2 a2 q q1 q2 q3 q4 => hcont e f2 h2' ρ2 w2 ft2 a2 q q1 q2 (Env.upto_trans up q3) q4
end
end Go.Proofs.YthnccaajpdnndaaDoor
namespace Go.Proofs.YthnccaajpdnndaaDoor
open Go.Conc Go.Proofs.Tryd
set_option maxRecDepth 100000
set_option maxHeartbeats 4000000
set_option linter.unusedVariables false
section
variable {main : Bool} {J : JT} {n0 : Nat} {h : List AObj} {K : Value → List AObj → Prop}
theorem at17 : prog.funcs[17]? = some f17 := by kernel_rfl
theorem body17 : f17.body = some (codeOf f17) := by kernel_rfl
def pl17 : Plans := []
def ct17 : Cuts := .bin (.go) (.bin (.go) (.bin (.go) (.bin (.go) (.bin (.bin (.go) (.un (.un (.bin (.go) (.bin (.go) (.bin (.un (.bin (.go) (.bin (.go) (.cut (.go))))) (.go))))))) (.go)))))
theorem pok17 : plansOk prog pl17 (codeOf f17) = true := by kernel_rfl
theorem e17 {a0 a1 a2 a3 a4 : Value} : W prog J 52 h.length 17 (codeOf f17) (RG.mk (regs [a0, a1, a2, a3, a4]) []) h (RetQ prog [.tmp 10, .tmp 11] h.length K) =
(aBox a0 h fun v1 h2 =>
 aBox a2 h2 fun v3 h4 =>
 aLoad true 6 v1 h4 fun v5 =>
 aLoad true 3 v3 h4 fun v6 =>
 Good prog J 32 [v5, a1, v6] h4 fun v7 h8 =>
 aBin prog .neq 26 v7 (vint 0) fun v9 =>
 cnd v9
(retL h.length K [] [(vint 0), v7] h8)
(aOff v3 0 fun v10 =>
 aLoad false 1 v10 h8 fun v11 =>
 aBin prog .sub 3 v11 (vint 1) fun v12 =>
 Good prog J 24 [a3, (vint 0), v12] h8 fun v13 h14 =>
 aUn .not v13 fun v15 =>
 cnd v15
(retL h.length K [] [(vint 0), (vint 3)] h14)
(Good prog J 24 [a4, (vint 0), (vint 99)] h14 fun v16 h17 =>
 aUn .not v16 fun v18 =>
 cnd v18
(retL h.length K [] [(vint 0), (vint 1)] h17)
(aLoad true 6 v1 h17 fun v19 =>
 aLoad true 3 v3 h17 fun v20 =>
 Good prog J 36 [v19, a1, v20] h17 fun v21 h22 =>
 aLenS v21 fun v23 =>
 Sem J 52 h.length 17 (subC [1, 1, 1, 1, 0, 1, 0] (codeOf f17)) (RG.p (RG.p (RG.p (RG.p (RG.p (RG.p (RG.p (RG.p (RG.p (RG.p (RG.p (RG.p (RG.p (RG.p (RG.p (RG.p (RG.p (RG.p (RG.p (RG.p (RG.p (RG.p (RG.p (RG.p (RG.p (RG.p (RG.mk (regs [a0, a1, a2, a3, a4]) []) 5 v1) 7 v3) 10 (vint 0)) 11 (vint 0)) 15 v5) 16 a1) 17 v6) 18 v7) 12 v7) 19 v7) 20 v9) 22 a3) 23 v10) 24 v11) 25 v12) 26 v13) 27 v15) 28 a4) 29 v16) 30 v18) 31 v19) 32 a1) 33 v20) 34 v21) 35 v23) 36 (vint 0)) h22 (contX pl17 prog J 52 h.length 17 ct17 [1, 1, 1, 1, 0, 1, 0] (codeOf f17) [] (RetQ prog [.tmp 10, .tmp 11] h.length K)))))) := top_eq pok17 ct17 (by kernel_rfl)
theorem g17 (hJ : Closed prog main J) {a0 a1 a2 a3 a4 : Value} (hs : heapOk h → W prog J 52 h.length 17 (codeOf f17) (RG.mk (regs [a0, a1, a2, a3, a4]) []) h (RetQ prog [.tmp 10, .tmp 11] h.length K)) : Good prog J 17 [a0, a1, a2, a3, a4] h K :=
 good_of_W hJ mixed at17 body17 (by kernel_rfl) (Nat.le_of_ble_eq_true rfl) hs
theorem s17_1 {f : RG} {nx0 : RG → List AObj → Prop} : W prog J 52 n0 17 (subC [1, 1, 1, 1, 0, 1, 0, 0] (codeOf f17)) f h (thenK nx0 (contX pl17 prog J 52 n0 17 ct17 [1, 1, 1, 1, 0, 1, 0] (codeOf f17) [] (RetQ prog [.tmp 10, .tmp 11] n0 K))) =
(aBin prog .lss 3 (f.r 36) (f.r 35) fun v1 =>
 cnd v1
(aIdx 3 (f.r 34) (f.r 36) fun v2 =>
 aLoad true 3 v2 h fun v3 =>
 aAlloc [(vint 0), (vint 0), (Value.bool false)] h fun v4 h5 =>
 aStore 3 v4 v3 h5 fun h6 =>
 aBin prog .geq 3 (f.r 36) (f.r 3) fun v7 =>
 cnd v7
(aOff v4 0 fun v8 =>
 aLoad false 1 v8 h6 fun v9 =>
 aBin prog .geq 3 v9 (f.r 4) fun v10 =>
 Hold (W prog J 52 n0 17 (subC [1, 1, 1, 1, 0, 1, 0, 0, 1, 1, 0, 0, 1, 1] (codeOf f17)) (RG.p (RG.p (RG.p (RG.p (RG.p (RG.p (RG.p (RG.p (RG.p (RG.p (RG.p (RG.p (RG.p (RG.p (RG.p (RG.p f 37 v1) 38 (f.r 36)) 39 v2) 40 v3) 14 v4) 13 (f.r 36)) 41 (f.r 36)) 42 (f.r 3)) 43 v7) 44 v7) 44 (Value.bool true)) 45 v8) 46 v9) 47 (f.r 4)) 48 v10) 49 v10) h6 (contX pl17 prog J 52 n0 17 ct17 [1, 1, 1, 1, 0, 1, 0, 0, 1, 1, 0, 0, 1, 1] (codeOf f17) [nx0] (RetQ prog [.tmp 10, .tmp 11] n0 K))))
(Hold (W prog J 52 n0 17 (subC [1, 1, 1, 1, 0, 1, 0, 0, 1, 1, 0, 0, 1, 1] (codeOf f17)) (RG.p (RG.p (RG.p (RG.p (RG.p (RG.p (RG.p (RG.p (RG.p (RG.p (RG.p (RG.p (RG.p (RG.p (RG.p (RG.p f 37 v1) 38 (f.r 36)) 39 v2) 40 v3) 14 v4) 13 (f.r 36)) 41 (f.r 36)) 42 (f.r 3)) 43 v7) 44 v7) 44 (Value.bool false)) 45 undef) 46 undef) 47 undef) 48 undef) 49 (Value.bool false)) h6 (contX pl17 prog J 52 n0 17 ct17 [1, 1, 1, 1, 0, 1, 0, 0, 1, 1, 0, 0, 1, 1] (codeOf f17) [nx0] (RetQ prog [.tmp 10, .tmp 11] n0 K)))))
(retL n0 K f.ds [(vint 0), (vint 11)] h)) := sub_eq pok17 ct17 (by kernel_rfl)
theorem l17_1 (hJ : Closed prog main J) {S : Type} (μ : S → Nat) (I : S → RG → List AObj → Prop) (hI : ∀ s f h, I s f h → heapOk h → n0 ≤ h.length → W prog J 52 n0 17 (subC [1, 1, 1, 1, 0, 1, 0, 0] (codeOf f17)) f h (thenK (Nx n0 μ I s) (contX pl17 prog J 52 n0 17 ct17 [1, 1, 1, 1, 0, 1, 0] (codeOf f17) [] (RetQ prog [.tmp 10, .tmp 11] n0 K))))
 {s : S} {f : RG} (hi : Gets n0 I s f h) : Sem J 52 n0 17 (subC [1, 1, 1, 1, 0, 1, 0] (codeOf f17)) f h (contX pl17 prog J 52 n0 17 ct17 [1, 1, 1, 1, 0, 1, 0] (codeOf f17) [] (RetQ prog [.tmp 10, .tmp 11] n0 K)) :=
 loop_rule hJ mixed (b := subC [1, 1, 1, 1, 0, 1, 0, 0] (codeOf f17)) (by kernel_rfl) μ I hI hi
theorem s17_2 {f : RG} {nx0 : RG → List AObj → Prop} : W prog J 52 n0 17 (subC [1, 1, 1, 1, 0, 1, 0, 0, 1, 1, 0, 0, 1, 1] (codeOf f17)) f h (contX pl17 prog J 52 n0 17 ct17 [1, 1, 1, 1, 0, 1, 0, 0, 1, 1, 0, 0, 1, 1] (codeOf f17) [nx0] (RetQ prog [.tmp 10, .tmp 11] n0 K)) =
(cnd (f.r 49)
(retL n0 K f.ds [(f.r 13), (vint 0)] h)
(aBin prog .add 3 (f.r 36) (vint 1) fun v1 =>
 nx0 (RG.p (RG.p f 51 v1) 36 v1) h)) := sub_eq pok17 ct17 (by kernel_rfl)
end
section
variable {main : Bool} {J : JT} {n0 : Nat} {h : List AObj} {K : Value → List AObj → Prop}
theorem at18 : prog.funcs[18]? = some f18 := by kernel_rfl
theorem body18 : f18.body = some (codeOf f18) := by kernel_rfl
def pl18 : Plans := [(1, false, .take 0 (.take 2 (.last 1 true (.last 3 true (.last 4 true (.last 5 true (.take 6 (.fin))))))))]
def ct18 : Cuts := .bin (.go) (.bin (.go) (.bin (.bin (.go) (.cut (.go))) (.go)))
theorem pok18 : plansOk prog pl18 (codeOf f18) = true := by kernel_rfl
theorem e18 {a0 a1 a2 a3 a4 : Value} : W prog J 55 h.length 18 (codeOf f18) (RG.mk (regs [a0, a1, a2, a3, a4]) []) h (RetQ prog [.tmp 10, .tmp 11] h.length K) =
(aBox a0 h fun v1 h2 =>
 aBox a1 h2 fun v3 h4 =>
(∃ B, aLoad true 6 v1 h4 fun v5 =>
 RdOk (some B) (ptrBlk v1) ∧ (aLoad true 3 v3 h4 fun v6 =>
 RdOk (some B) (ptrBlk v3) ∧ (Good prog J 6 [v5] h4 fun v7 h8 =>
 SameB (some B) h4 h8 ∧ (Good prog J 25 [v6] h8 fun v9 h10 =>
 SameB (some B) h4 h10 ∧ ((((2 * 1 : Nat) ≤ 16777216 ∧ (2 : Nat) ≤ 16777216 ∧ List.length [(vint 0)] = 1) ∧ aFill (zrep [(vint 0)] 2) [(0, 1, v7), (1, 1, v9)] fun c11 =>
 aNewS 2 c11 h10 fun v12 h13 =>
 SameB (some B) h4 h13 ∧ (Good prog J 34 [v12] h13 fun v14 h15 =>
 SameB (some B) h4 h15 ∧ (aBin prog .neq 26 v14 (vint 0) fun v16 =>
 cnd v16
(retL h.length K [] [(vint 0), v14] h15)
(Good prog J 24 [a2, (vint 0), (vint 40)] h15 fun v17 h18 =>
 aUn .not v17 fun v19 =>
 cnd v19
(Hold (W prog J 55 h.length 18 (subC [1, 1, 0, 1] (codeOf f18)) (RG.p (RG.p (RG.p (RG.p (RG.p (RG.p (RG.p (RG.p (RG.p (RG.p (RG.p (RG.p (RG.p (RG.p (RG.p (RG.p (RG.p (RG.p (RG.p (RG.p (RG.p (RG.p (RG.p (RG.p (RG.mk (regs [a0, a1, a2, a3, a4]) []) 5 v1) 6 v3) 10 (vint 0)) 11 (vint 0)) 14 v5) 16 v6) 15 v7) 17 v9) 18 v12) 19 v14) 12 v14) 20 v14) 21 v16) 23 a2) 24 v17) 25 v19) 26 v19) 26 (Value.bool true)) 27 undef) 28 undef) 29 undef) 30 undef) 31 undef) 32 (Value.bool true)) h18 (contX pl18 prog J 55 h.length 18 ct18 [1, 1, 0, 1] (codeOf f18) [] (RetQ prog [.tmp 10, .tmp 11] h.length K))))
(aOff v3 0 fun v20 =>
 aLoad false 1 v20 h18 fun v21 =>
 Good prog J 24 [a3, (vint 1), v21] h18 fun v22 h23 =>
 aUn .not v22 fun v24 =>
 Hold (W prog J 55 h.length 18 (subC [1, 1, 0, 1] (codeOf f18)) (RG.p (RG.p (RG.p (RG.p (RG.p (RG.p (RG.p (RG.p (RG.p (RG.p (RG.p (RG.p (RG.p (RG.p (RG.p (RG.p (RG.p (RG.p (RG.p (RG.p (RG.p (RG.p (RG.p (RG.p (RG.mk (regs [a0, a1, a2, a3, a4]) []) 5 v1) 6 v3) 10 (vint 0)) 11 (vint 0)) 14 v5) 16 v6) 15 v7) 17 v9) 18 v12) 19 v14) 12 v14) 20 v14) 21 v16) 23 a2) 24 v17) 25 v19) 26 v19) 26 (Value.bool false)) 27 a3) 28 v20) 29 v21) 30 v22) 31 v24) 32 v24) h23 (contX pl18 prog J 55 h.length 18 ct18 [1, 1, 0, 1] (codeOf f18) [] (RetQ prog [.tmp 10, .tmp 11] h.length K)))))))))))))) := top_eq pok18 ct18 (by kernel_rfl)
theorem g18 (hJ : Closed prog main J) {a0 a1 a2 a3 a4 : Value} (hs : heapOk h → W prog J 55 h.length 18 (codeOf f18) (RG.mk (regs [a0, a1, a2, a3, a4]) []) h (RetQ prog [.tmp 10, .tmp 11] h.length K)) : Good prog J 18 [a0, a1, a2, a3, a4] h K :=
 good_of_W hJ mixed at18 body18 (by kernel_rfl) (Nat.le_of_ble_eq_true rfl) hs
theorem s18_1 {f : RG} : W prog J 55 n0 18 (subC [1, 1, 0, 1] (codeOf f18)) f h (contX pl18 prog J 55 n0 18 ct18 [1, 1, 0, 1] (codeOf f18) [] (RetQ prog [.tmp 10, .tmp 11] n0 K)) =
(cnd (f.r 32)
(retL n0 K f.ds [(vint 0), (vint 1)] h)
(aOff (f.r 6) 0 fun v1 =>
 aLoad false 1 v1 h fun v2 =>
 aBin prog .sub 3 v2 (vint 1) fun v3 =>
 Good prog J 24 [(f.r 4), (vint 0), v3] h fun v4 h5 =>
 aUn .not v4 fun v6 =>
 cnd v6
(retL n0 K f.ds [(vint 0), (vint 3)] h5)
(Sem J 55 n0 18 (subC [1, 1, 1, 1, 0, 1, 0] (codeOf f18)) (RG.p (RG.p (RG.p (RG.p (RG.p (RG.p (RG.p (RG.p f 33 (f.r 4)) 34 v1) 35 v2) 36 v3) 37 v4) 38 v6) 39 (f.r 4)) 13 (f.r 4)) h5 (contX pl18 prog J 55 n0 18 ct18 [1, 1, 1, 1, 0, 1, 0] (codeOf f18) [] (RetQ prog [.tmp 10, .tmp 11] n0 K))))) := sub_eq pok18 ct18 (by kernel_rfl)
theorem s18_2 {f : RG} {nx0 : RG → List AObj → Prop} : W prog J 55 n0 18 (subC [1, 1, 1, 1, 0, 1, 0, 0] (codeOf f18)) f h (thenK nx0 (contX pl18 prog J 55 n0 18 ct18 [1, 1, 1, 1, 0, 1, 0] (codeOf f18) [] (RetQ prog [.tmp 10, .tmp 11] n0 K))) =
(aBin prog .add 3 (f.r 13) (f.r 3) fun v1 =>
 aOff (f.r 6) 0 fun v2 =>
 aLoad false 1 v2 h fun v3 =>
 aBin prog .leq 3 v1 v3 fun v4 =>
 cnd v4
(aLoad true 6 (f.r 5) h fun v5 =>
 aLoad true 3 (f.r 6) h fun v6 =>
 Good prog J 35 [v5, v6, (f.r 2), (f.r 13), (f.r 3)] h fun v7 h8 =>
 cnd v7
(retL n0 K f.ds [(f.r 13), (vint 0)] h8)
(aBin prog .add 3 (f.r 13) (vint 1) fun v9 =>
 nx0 (RG.p (RG.p (RG.p (RG.p (RG.p (RG.p (RG.p (RG.p (RG.p (RG.p (RG.p (RG.p (RG.p (RG.p (RG.p f 40 (f.r 13)) 41 (f.r 3)) 42 v1) 43 v2) 44 v3) 45 v4) 48 v5) 49 v6) 50 (f.r 2)) 51 (f.r 13)) 52 (f.r 3)) 53 v7) 46 (f.r 13)) 47 v9) 13 v9) h8))
(retL n0 K f.ds [(vint 0), (vint 11)] h)) := sub_eq pok18 ct18 (by kernel_rfl)
theorem l18_2 (hJ : Closed prog main J) {S : Type} (μ : S → Nat) (I : S → RG → List AObj → Prop) (hI : ∀ s f h, I s f h → heapOk h → n0 ≤ h.length → W prog J 55 n0 18 (subC [1, 1, 1, 1, 0, 1, 0, 0] (codeOf f18)) f h (thenK (Nx n0 μ I s) (contX pl18 prog J 55 n0 18 ct18 [1, 1, 1, 1, 0, 1, 0] (codeOf f18) [] (RetQ prog [.tmp 10, .tmp 11] n0 K))))
 {s : S} {f : RG} (hi : Gets n0 I s f h) : Sem J 55 n0 18 (subC [1, 1, 1, 1, 0, 1, 0] (codeOf f18)) f h (contX pl18 prog J 55 n0 18 ct18 [1, 1, 1, 1, 0, 1, 0] (codeOf f18) [] (RetQ prog [.tmp 10, .tmp 11] n0 K)) :=
 loop_rule hJ mixed (b := subC [1, 1, 1, 1, 0, 1, 0, 0] (codeOf f18)) (by kernel_rfl) μ I hI hi
end
end Go.Proofs.YthnccaajpdnndaaDoor
namespace Go.Proofs.YthnccaajpdnndaaDoor
open Go.Conc Go.Proofs.Tryd
set_option maxRecDepth 100000
def rdyF (q : Nat → Bool) : Nat → Nat → Int × Int
 | 0, _ => (0, 11)
 | m + 1, d => if q d = true then ((d : Int), 0) else rdyF q m (d + 1)
def rdyV (p : Pas) (s : SkyR) (n dy fr : Int) : Int × Int :=
 if fst2 (pasE p) (skyE s) ≠ 0 then (0, fst2 (pasE p) (skyE s)) else if ¬ ((0 ≤ n ∧ n ≤ 40) ∧ (1 ≤ dy ∧ dy ≤ s.days)) then (0, 1) else if ¬ (0 ≤ fr ∧ fr ≤ s.days - 1) then (0, 3) else
  rdyF (fun d => stayB p s n (d : Nat) dy) (s.days + 1 - (fr + dy)).toNat fr.toNat
section
variable {main : Bool} {J : JT} {h H : List AObj} {K : Value → List AObj → Prop} {KV : Value → Prop} {HL : List AObj → Prop} {n0 : Nat}
theorem good18 (hJ : Closed prog main J) {p : Pas} {s : SkyR} {n dy fr : Int} (hK : ∀ H', SameX [] H H' → K (.tuple ⟨[vint (rdyV p s n dy fr).1, vint (rdyV p s n dy fr).2]⟩) H') : Good prog J 18 [.agg ⟨p.cells⟩, .agg ⟨s.cells⟩, vint n, vint dy, vint fr] H K := by
 refine g18 hJ fun ok => ?_
 rw [e18]
 refine qBox (l := p.cells) rfl fun H1 p4 e1 S1 c4 l1 => qBox (l := s.cells) rfl fun H2 p5 e2 S2 c5 l2 => ?_
 have c42 := S2.get c4 (by simp)
 have T2 := S1.trans S2
 have b4 := lt_of_get c42
 have b5 := lt_of_get c5
 refine ⟨[p4, p5], load_part (c := p.cells) c42 (by simp [Pas.cells]) rfl rfl ⟨by simp [RdOk, ptrBlk], load_part (c := s.cells) c5 (by simp [SkyR.cells]) rfl rfl ⟨by simp [RdOk, ptrBlk], ?_⟩⟩⟩
 have sb : ∀ {H'}, SameX [] H2 H' → SameB (some [p4, p5]) H2 H' := fun S => sbTwo S b4 b5 (by simp) (by simp)
 refine good6 hJ ⟨sb SameX.refl, good25 hJ ⟨sb SameX.refl, by decide, fillP2 ⟨rfl, rfl⟩ ⟨rfl, rfl⟩ (qNew fun H3 p3 e3 S3 c3 l3 => ⟨sb S3, ?_⟩)⟩⟩
 refine good34 hJ (ownX_sli (ownX_new (s := 1) (n := 2) c3 rfl rfl)) ⟨sb S3, ?_⟩
 have T3 := T2.trans S3
 have c43 := S3.get c42 (by simp)
 have c53 := S3.get c5 (by simp)
 have fin : ∀ {d e : Int} {H' : List AObj}, rdyV p s n dy fr = (d, e) → SameX [] H H' → retL H.length K [] [vint d, vint e] H' := fun {d e H'} he S => by
  have := hK H' S
  rw [he] at this
  exact retL_same (nu2 (by simp [unk]) (by simp [unk])) this
 refine neqI (cndI (fun h1 => fin (by unfold rdyV; rw [if_pos h1]) T3) fun h1 => ?_)
 obtain ⟨f, g⟩ := fst2_zero (p := p) (s := s) (by omega)
 obtain ⟨g1, g2, g3⟩ := id g
 have tail : ∀ {F : RG} {z : Bool}, F.ds = [] → F.r 2 = vint n → F.r 3 = vint dy → F.r 4 = vint fr → F.r 5 = ptr p4 0 → F.r 6 = ptr p5 0 → F.r 32 = .bool z → (z = true ↔ ¬ ((0 ≤ n ∧ n ≤ 40) ∧ (1 ≤ dy ∧ dy ≤ s.days))) →
   W prog J 55 H.length 18 (subC [1, 1, 0, 1] (codeOf f18)) F H3 (contX pl18 prog J 55 H.length 18 ct18 [1, 1, 0, 1] (codeOf f18) [] (RetQ prog [.tmp 10, .tmp 11] H.length K)) := by
  intro F z ds r2 r3 r4 r5 r6 r32 hz
  rw [s18_1, r4, r6, r32, ds]
  refine cndB (fun hb => fin (by unfold rdyV; rw [if_neg h1, if_pos (hz.1 hb)]) T3) fun hb => ?_
  have h2 : ¬ ¬ ((0 ≤ n ∧ n ≤ 40) ∧ (1 ≤ dy ∧ dy ≤ s.days)) := fun h => by
   rw [hz.2 h] at hb
   cases hb
  refine offI (ldI (v := vint s.days) c53 rfl rfl (subI (by omega) (good24 hJ (notI (cndN (fun h3 => fin (by unfold rdyV; rw [if_neg h1, if_neg h2, if_pos h3]) T3) fun h3 => ?_)))))
  obtain ⟨q1, q2⟩ := Classical.not_not.1 h2
  obtain ⟨frn, rfl⟩ := Int.eq_ofNat_of_zero_le h3.1
  obtain ⟨dyn, rfl⟩ := Int.eq_ofNat_of_zero_le (by omega : 0 ≤ dy)
  have hv : rdyV p s n (dyn : Nat) (frn : Nat) = rdyF (fun d => stayB p s n (d : Nat) (dyn : Nat)) (s.days + 1 - ((frn : Int) + dyn)).toNat frn := by
   unfold rdyV
   rw [if_neg h1, if_neg h2, if_neg (not_not_intro h3), Int.toNat_natCast]
  refine l18_2 hJ (fun d : Nat => (s.days + 1 - ((d : Int) + dyn)).toNat) (fun d F H' => d ≤ 8 ∧ SameX [] H H' ∧ H'[p4]? = some (.cells p.cells true 0) ∧ H'[p5]? = some (.cells s.cells true 0) ∧ rdyV p s n (dyn : Nat) (frn : Nat) = rdyF (fun d => stayB p s n (d : Nat) (dyn : Nat)) (s.days + 1 - ((d : Int) + dyn)).toNat d ∧ F.ds = [] ∧ F.r 2 = vint n ∧ F.r 3 = vint (dyn : Nat) ∧ F.r 5 = ptr p4 0 ∧ F.r 6 = ptr p5 0 ∧ F.r 13 = vint (d : Nat)) ?_ (s := frn)
   (.inl ⟨by omega, T3, c43, c53, hv, ds, r2, r3, r5, r6, rfl⟩)
  rintro d F H' ⟨hd, S, d4, d5, hq, ds, r2, r3, r5, r6, r13⟩ okc hnc
  rw [s18_2, r2, r3, r5, r6, r13, ds]
  refine addI (by omega) (offI (ldI (v := vint s.days) d5 rfl rfl (leqI (cndI (fun hle => ?_) fun hgt => ?_))))
  ·refine load_part (c := p.cells) d4 (by simp [Pas.cells]) rfl rfl (load_part (c := s.cells) d5 (by simp [SkyR.cells]) rfl rfl ?_)
   obtain ⟨m, hm⟩ : ∃ m, (s.days + 1 - ((d : Int) + dyn)).toNat = m + 1 := ⟨(s.days - ((d : Int) + dyn)).toNat, by omega⟩
   rw [hm] at hq
   refine good35 hJ f g q1 (by omega) fun H4 S4 => cndB (fun hb => fin ?_ (S.trans S4)) fun hb => ?_
   ·rw [hq]
    unfold rdyF
    rw [if_pos hb]
   ·refine addI (by omega) ⟨d + 1, by dsimp only; omega, .inl ⟨by omega, S.trans S4, S4.get d4 (by simp), S4.get d5 (by simp), ?_, ds, r2, r3, r5, r6, by show vint _ = vint _; congr 1⟩⟩
    have e : (s.days + 1 - (((d + 1 : Nat) : Int) + dyn)).toNat = m := by omega
    rw [hq, e]
    conv => lhs; unfold rdyF
    rw [if_neg (by rw [hb]; decide)]
  ·refine fin ?_ S
   have e : (s.days + 1 - ((d : Int) + dyn)).toNat = 0 := by omega
   rw [hq, e]
   rfl
 refine good24 hJ (notI (cndN (fun h2 => hold.2 (tail (z := true) rfl rfl rfl rfl rfl rfl rfl ⟨fun _ h => h2 h.1, fun _ => rfl⟩)) fun h2 => ?_))
 refine offI (ldI (v := vint s.days) c53 rfl rfl (good24 hJ (notI (hold.2 (tail (z := !decide (1 ≤ dy ∧ dy ≤ s.days)) rfl rfl rfl rfl rfl rfl rfl ?_)))))
 simp only [Bool.not_eq_true', decide_eq_false_iff_not]
 exact ⟨fun h3 h4 => h3 h4.2, fun h3 h4 => h3 ⟨h2, h4⟩⟩
end
theorem spans_len {p : Pas} {hs : List Int} {s : SkyR} : (spansR p hs s).length = s.days.toNat := by
 unfold spansR
 rw [spansK_len, List.length_replicate]
def agnQ (p : Pas) (hs : List Int) (s : SkyR) (fr want : Int) (k : Nat) : Bool := decide ((k : Int) ≥ fr) && decide (((spansR p hs s).getD k (0, 0, false)).1 ≥ want)
def agnV (p : Pas) (hs : List Int) (s : SkyR) (fr want : Int) : Int × Int :=
 if ckdE p hs s ≠ 0 then (0, ckdE p hs s) else if ¬ (0 ≤ fr ∧ fr ≤ s.days - 1) then (0, 3) else if ¬ (0 ≤ want ∧ want ≤ 99) then (0, 1) else rdyF (agnQ p hs s fr want) s.days.toNat 0
section
variable {main : Bool} {J : JT} {h H : List AObj} {K : Value → List AObj → Prop}
theorem good17 (hJ : Closed prog main J) {p : Pas} {s : SkyR} {hs : List Int} {hv : Value} {fr want : Int} (sh : Sli H hv 1 hs.length (hs.map vint)) (hl : hs.length < 1000000) (hK : ∀ H', SameX [] H H' → K (.tuple ⟨[vint (agnV p hs s fr want).1, vint (agnV p hs s fr want).2]⟩) H') : Good prog J 17 [.agg ⟨p.cells⟩, hv, .agg ⟨s.cells⟩, vint fr, vint want] H K := by
 refine g17 hJ fun ok => ?_
 rw [e17]
 refine qBox (l := p.cells) rfl fun H1 p3 e1 S1 c3 l1 => qBox (l := s.cells) rfl fun H2 p5 e2 S2 c5 l2 => ?_
 have c32 := S2.get c3 (by simp)
 have T2 := S1.trans S2
 have fin : ∀ {d e : Int} {H' : List AObj}, agnV p hs s fr want = (d, e) → SameX [] H H' → retL H.length K [] [vint d, vint e] H' := fun {d e H'} he S => by
  have := hK H' S
  rw [he] at this
  exact retL_same (nu2 (by simp [unk]) (by simp [unk])) this
 refine load_part (c := p.cells) c32 (by simp [Pas.cells]) rfl rfl (load_part (c := s.cells) c5 (by simp [SkyR.cells]) rfl rfl ?_)
 refine good32 hJ (T2.sli sh (by simp)) hl fun H3 S3 => neqI (cndI (fun h1 => fin (by unfold agnV; rw [if_pos h1]) (T2.trans S3)) fun h1 => ?_)
 have h0 : ckdE p hs s = 0 := by omega
 obtain ⟨f, g, hh, hlen⟩ := ckdE_zero h0
 obtain ⟨g1, g2, g3⟩ := id g
 have T3 := T2.trans S3
 refine offI (ldI (v := vint s.days) (S3.get c5 (by simp)) rfl rfl (subI (by omega) (good24 hJ (notI (cndN (fun h2 => fin (by unfold agnV; rw [if_neg h1, if_pos h2]) T3) fun h2 => ?_)))))
 refine good24 hJ (notI (cndN (fun h3 => fin (by unfold agnV; rw [if_neg h1, if_neg (not_not_intro h2), if_pos h3]) T3) fun h3 => ?_))
 refine load_part (c := p.cells) (S3.get c32 (by simp)) (by simp [Pas.cells]) rfl rfl (load_part (c := s.cells) (S3.get c5 (by simp)) (by simp [SkyR.cells]) rfl rfl ?_)
 refine good36 hJ f g hh hlen (T3.sli sh (by simp)) fun H4 sv S4 hsv => lenI hsv ?_
 have T4 := T3.trans S4
 have hsl := spans_len (p := p) (hs := hs) (s := s)
 have hsE : SliE H4 sv 3 spanC (spansR p hs s) := by
  show Sli H4 sv 3 (spansR p hs s).length _
  rw [hsl]
  exact hsv
 have hv0 : agnV p hs s fr want = rdyF (agnQ p hs s fr want) (s.days.toNat - 0) 0 := by
  unfold agnV
  rw [if_neg h1, if_neg (not_not_intro h2), if_neg (not_not_intro h3)]
  rfl
 refine l17_1 hJ (fun k : Nat => s.days.toNat - k) (fun k F H' => k ≤ s.days.toNat ∧ SameX [] H4 H' ∧ agnV p hs s fr want = rdyF (agnQ p hs s fr want) (s.days.toNat - k) k ∧ F.ds = [] ∧ F.r 3 = vint fr ∧ F.r 4 = vint want ∧ F.r 34 = sv ∧ F.r 35 = vint (s.days.toNat : Nat) ∧ F.r 36 = vint (k : Nat)) ?_ (s := 0)
  (.inl ⟨by omega, SameX.refl, hv0, rfl, rfl, rfl, rfl, rfl, rfl⟩)
 rintro k F H' ⟨hk, S, hq, ds, r3, r4, r34, r35, r36⟩ okc hnc
 rw [s17_1, r3, r4, r34, r35, r36, ds]
 refine lssI (cndI (fun hlt => ?_) fun hge => ?_)
 rotate_left
 ·have e : s.days.toNat - k = 0 := by omega
  rw [e] at hq
  exact fin hq (T4.trans S)
 have hkl : k < (spansR p hs s).length := by omega
 obtain ⟨b, oo, cs, wr, sz, hidx, hb, hos, htk, hkn⟩ := sliE_elem (s := 3) (fun _ => rfl) (by decide) (S.sli hsE (by simp)) hkl
 obtain ⟨m, hm⟩ : ∃ m, s.days.toNat - k = m + 1 := ⟨s.days.toNat - k - 1, by omega⟩
 have hm' : s.days.toNat - (k + 1) = m := by omega
 rw [hm] at hq
 have hqk : agnQ p hs s fr want k = (decide ((k : Int) ≥ fr) && decide ((spansR p hs s)[k].1 ≥ want)) := by
  unfold agnQ
  rw [List.getD_eq_getElem?_getD, List.getElem?_eq_getElem hkl]
  rfl
 generalize (spansR p hs s)[k] = x at htk hqk
 refine hidx _ (load_part (c := spanC x) hb hos htk rfl (qAl fun H5 p5' e5 S5 c5' l5 => qStA (c := spanC x) c5' rfl rfl rfl fun H6 S6 c6 l6 => ?_))
 have TH : SameX [] H' H6 := S5.thru S6 (by simp; omega)
 have tail : ∀ {F2 : RG} {z : Bool}, z = agnQ p hs s fr want k → F2.ds = [] → F2.r 3 = vint fr → F2.r 4 = vint want → F2.r 34 = sv → F2.r 35 = vint (s.days.toNat : Nat) → F2.r 36 = vint (k : Nat) → F2.r 13 = vint (k : Nat) → F2.r 49 = .bool z →
   W prog J 52 H.length 17 (subC [1, 1, 1, 1, 0, 1, 0, 0, 1, 1, 0, 0, 1, 1] (codeOf f17)) F2 H6 (contX pl17 prog J 52 H.length 17 ct17 [1, 1, 1, 1, 0, 1, 0, 0, 1, 1, 0, 0, 1, 1] (codeOf f17) [Nx H.length (fun k : Nat => s.days.toNat - k) (fun k F H' => k ≤ s.days.toNat ∧ SameX [] H4 H' ∧ agnV p hs s fr want = rdyF (agnQ p hs s fr want) (s.days.toNat - k) k ∧ F.ds = [] ∧ F.r 3 = vint fr ∧ F.r 4 = vint want ∧ F.r 34 = sv ∧ F.r 35 = vint (s.days.toNat : Nat) ∧ F.r 36 = vint (k : Nat)) k] (RetQ prog [.tmp 10, .tmp 11] H.length K)) := by
  intro F2 z hz ds2 q3 q4 q34 q35 q36 q13 q49
  rw [s17_2, q36, q13, q49, ds2]
  refine cndB (fun h => fin ?_ ((T4.trans S).trans TH)) fun h => ?_
  ·rw [hq]
   unfold rdyF
   rw [if_pos (by rw [← hz, h])]
  ·refine addI (by omega) ⟨k + 1, by dsimp only; omega, .inl ⟨by omega, S.trans TH, ?_, ds2, q3, q4, q34, q35, by show vint _ = vint _; congr 1⟩⟩
   rw [hq, hm']
   conv => lhs; unfold rdyF
   rw [if_neg (by rw [← hz, h]; decide)]
 refine geqI (cndI (fun h1 => ?_) fun h1 => hold.2 (tail (z := false) (by rw [hqk, decide_eq_false h1, Bool.false_and]) ds r3 r4 r34 r35 r36 rfl rfl))
 exact offI (ldI (v := vint x.1) c6 rfl rfl (geqI (hold.2 (tail (z := decide (x.1 ≥ want)) (by rw [hqk, decide_eq_true h1, Bool.true_and]) ds r3 r4 r34 r35 r36 rfl rfl))))
end
end Go.Proofs.YthnccaajpdnndaaDoor
namespace Go.Proofs.YthnccaajpdnndaaDoor
open Go.Conc Go.Proofs.Tryd
set_option maxRecDepth 100000
set_option maxHeartbeats 4000000
set_option linter.unusedVariables false
section
variable {main : Bool} {J : JT} {n0 : Nat} {h : List AObj} {K : Value → List AObj → Prop}
theorem at10 : prog.funcs[10]? = some f10 := by kernel_rfl
theorem body10 : f10.body = some (codeOf f10) := by kernel_rfl
def pl10 : Plans := []
def ct10 : Cuts := .go
theorem pok10 : plansOk prog pl10 (codeOf f10) = true := by kernel_rfl
theorem e10 {a0 a1 a2 : Value} : W prog J 23 h.length 10 (codeOf f10) (RG.mk (regs [a0, a1, a2]) []) h (RetQ prog [.tmp 6, .tmp 7] h.length K) =
(aBox a0 h fun v1 h2 =>
 aLoad true 6 v1 h2 fun v3 =>
 Good prog J 27 [v3, a1, a2] h2 fun v4 h5 =>
 aBin prog .neq 26 v4 (vint 0) fun v6 =>
 cnd v6
(retL h.length K [] [(Value.slice none 0 0), v4] h5)
(aAlloc [(Value.slice none 0 0)] h5 fun v7 h8 =>
 aLoad true 6 v1 h8 fun v9 =>
 aMkF 29 [] [v7] fun v10 =>
 Good prog J 28 [v9, a1, a2, v10] h8 fun v11 h12 =>
 aLoad false 1 v7 h12 fun v13 =>
 retL h.length K [] [v13, (vint 0)] h12)) := top_eq pok10 ct10 (by kernel_rfl)
theorem g10 (hJ : Closed prog main J) {a0 a1 a2 : Value} (hs : heapOk h → W prog J 23 h.length 10 (codeOf f10) (RG.mk (regs [a0, a1, a2]) []) h (RetQ prog [.tmp 6, .tmp 7] h.length K)) : Good prog J 10 [a0, a1, a2] h K :=
 good_of_W hJ mixed at10 body10 (by kernel_rfl) (Nat.le_of_ble_eq_true rfl) hs
theorem at29 : prog.funcs[29]? = some f29 := by kernel_rfl
theorem body29 : f29.body = some (codeOf f29) := by kernel_rfl
def pl29 : Plans := []
def ct29 : Cuts := .go
theorem pok29 : plansOk prog pl29 (codeOf f29) = true := by kernel_rfl
theorem e29 {a0 a1 a2 a3 a4 : Value} : W prog J 14 h.length 29 (codeOf f29) (RG.mk (regs [a0, a1, a2, a3, a4]) []) h (RetQ prog [] h.length K) =
(cnd a3
(aLoad false 1 a4 h fun v1 =>
(((1 * 1 : Nat) ≤ 16777216 ∧ (1 : Nat) ≤ 16777216 ∧ List.length [(vint 0)] = 1) ∧ aFill (zrep [(vint 0)] 1) [(0, 1, a0)] fun c2 =>
 aNewS 1 c2 h fun v3 h4 =>
((List.length [(vint 0)] = 1 ∧ 0 < (1 : Nat) ∧ 0 < (8 : Nat) ∧ (8 : Nat) ≤ 1024) ∧ aApp 1 v1 v3 h4 fun v5 h6 =>
 aStore 1 a4 v5 h6 fun h7 =>
 retL h.length K [] [] h7)))
(retL h.length K [] [] h)) := top_eq pok29 ct29 (by kernel_rfl)
theorem g29 (hJ : Closed prog main J) {a0 a1 a2 a3 a4 : Value} (hs : heapOk h → W prog J 14 h.length 29 (codeOf f29) (RG.mk (regs [a0, a1, a2, a3, a4]) []) h (RetQ prog [] h.length K)) : Good prog J 29 [a0, a1, a2, a3, a4] h K :=
 good_of_W hJ mixed at29 body29 (by kernel_rfl) (Nat.le_of_ble_eq_true rfl) hs
theorem at11 : prog.funcs[11]? = some f11 := by kernel_rfl
theorem body11 : f11.body = some (codeOf f11) := by kernel_rfl
def pl11 : Plans := []
def ct11 : Cuts := .go
theorem pok11 : plansOk prog pl11 (codeOf f11) = true := by kernel_rfl
theorem e11 {a0 a1 a2 : Value} : W prog J 23 h.length 11 (codeOf f11) (RG.mk (regs [a0, a1, a2]) []) h (RetQ prog [.tmp 6, .tmp 7] h.length K) =
(aBox a0 h fun v1 h2 =>
 aLoad true 6 v1 h2 fun v3 =>
 Good prog J 27 [v3, a1, a2] h2 fun v4 h5 =>
 aBin prog .neq 26 v4 (vint 0) fun v6 =>
 cnd v6
(retL h.length K [] [(Value.slice none 0 0), v4] h5)
(aAlloc [(Value.slice none 0 0)] h5 fun v7 h8 =>
 aLoad true 6 v1 h8 fun v9 =>
 aMkF 30 [] [v7] fun v10 =>
 Good prog J 28 [v9, a1, a2, v10] h8 fun v11 h12 =>
 aLoad false 1 v7 h12 fun v13 =>
 retL h.length K [] [v13, (vint 0)] h12)) := top_eq pok11 ct11 (by kernel_rfl)
theorem g11 (hJ : Closed prog main J) {a0 a1 a2 : Value} (hs : heapOk h → W prog J 23 h.length 11 (codeOf f11) (RG.mk (regs [a0, a1, a2]) []) h (RetQ prog [.tmp 6, .tmp 7] h.length K)) : Good prog J 11 [a0, a1, a2] h K :=
 good_of_W hJ mixed at11 body11 (by kernel_rfl) (Nat.le_of_ble_eq_true rfl) hs
theorem at30 : prog.funcs[30]? = some f30 := by kernel_rfl
theorem body30 : f30.body = some (codeOf f30) := by kernel_rfl
def pl30 : Plans := []
def ct30 : Cuts := .go
theorem pok30 : plansOk prog pl30 (codeOf f30) = true := by kernel_rfl
theorem e30 {a0 a1 a2 a3 a4 : Value} : W prog J 14 h.length 30 (codeOf f30) (RG.mk (regs [a0, a1, a2, a3, a4]) []) h (RetQ prog [] h.length K) =
(cnd a2
(aLoad false 1 a4 h fun v1 =>
(((1 * 1 : Nat) ≤ 16777216 ∧ (1 : Nat) ≤ 16777216 ∧ List.length [(vint 0)] = 1) ∧ aFill (zrep [(vint 0)] 1) [(0, 1, a0)] fun c2 =>
 aNewS 1 c2 h fun v3 h4 =>
((List.length [(vint 0)] = 1 ∧ 0 < (1 : Nat) ∧ 0 < (8 : Nat) ∧ (8 : Nat) ≤ 1024) ∧ aApp 1 v1 v3 h4 fun v5 h6 =>
 aStore 1 a4 v5 h6 fun h7 =>
 retL h.length K [] [] h7)))
(retL h.length K [] [] h)) := top_eq pok30 ct30 (by kernel_rfl)
theorem g30 (hJ : Closed prog main J) {a0 a1 a2 a3 a4 : Value} (hs : heapOk h → W prog J 14 h.length 30 (codeOf f30) (RG.mk (regs [a0, a1, a2, a3, a4]) []) h (RetQ prog [] h.length K)) : Good prog J 30 [a0, a1, a2, a3, a4] h K :=
 good_of_W hJ mixed at30 body30 (by kernel_rfl) (Nat.le_of_ble_eq_true rfl) hs
end
end Go.Proofs.YthnccaajpdnndaaDoor
namespace Go.Proofs.YthnccaajpdnndaaDoor
open Go.Conc Go.Proofs.Tryd
set_option maxRecDepth 100000
section
variable {main : Bool} {J : JT} {h H : List AObj} {K : Value → List AObj → Prop} {KV : Value → Prop} {HL : List AObj → Prop} {n0 : Nat}
theorem good29 (hJ : Closed prog main J) {q j : Nat} {b : Bool} {a1 a2 v : Value} {xs : List Int} {o : Option Nat} (hq : H[q]? = some (.cells [v] true 0)) (O : OwnX H 1 (xs.map vint) xs.length v o) (hne : o ≠ some q) (hk : xs.length < 100000)
  (hK : ∀ H' v' o', SameX (q :: o.toList) H H' → H'[q]? = some (.cells [v'] true 0) → OwnX H' 1 ((xs ++ if b = true then [(j : Int)] else []).map vint) (xs ++ if b = true then [(j : Int)] else []).length v' o' → o' ≠ some q → (∀ i, o' = some i → o = some i ∨ H.length ≤ i) → K (pack []) H') : Good prog J 29 [vint (j : Nat), a1, a2, .bool b, ptr q 0] H K := by
 refine g29 hJ fun ok => ?_
 rw [e29]
 have kv := (ownX_val O).2.2
 refine cndB (fun hb => ?_) fun hb => ?_
 ·rw [hb, if_pos rfl] at hK
  refine ldI (v := v) hq rfl kv ⟨⟨by decide, by decide, rfl⟩, fillO (l := [vint (j : Nat)]) rfl rfl rfl (by decide) (fillI (qNew fun H1 p1 e1 S1 c1 l1 => ?_))⟩
  have hq1 := S1.get hq (by simp)
  have lq := lt_of_get hq
  refine ⟨⟨rfl, by decide, by decide, by decide⟩, ownX_more (ownX_keep O S1 (by simp)) (by decide) hk (e := [vint (j : Nat)]) ⟨_, _, rfl, ⟨rfl, rfl⟩, .inr ⟨p1, 0, rfl, .inr ⟨_, _, _, c1, rfl⟩⟩⟩ fun v' H2 p2 e2 O2 S2 => ?_⟩
  have hq2 : H2[q]? = some (.cells [v] true 0) := S2.get hq1 (by
   cases o with
   | none => simp
   | some i => simp; exact fun e => hne (by rw [e]))
  have vv := ownX_val O2
  refine qSt hq2 (by simp) vv.1 vv.2.1 fun H3 S3 c3 l3 => retL_same (by simp) (hK H3 v' (some p2) ?_ c3 ?_ (by simp; omega) fun i hi => by cases hi; right; omega)
  ·refine ((S1.weak0.thru S2 fun y hy => .inl (by simp [hy])).thru S3 fun y hy => .inl (by simp at hy; simp [hy]) : SameX (q :: o.toList) H H3)
  ·rw [List.map_append, List.length_append]
   exact ownX_keep O2 S3 (fun i hi => by cases hi; simp; omega)
 ·rw [hb, if_neg (by decide), List.append_nil] at hK
  exact retL_same (by simp) (hK H v o SameX.refl hq O hne fun i hi => .inl hi)
theorem good10 (hJ : Closed prog main J) {p : Pas} {heads : List Int} {w : List UInt8} {hv : Value} (sh : Sli H hv 1 heads.length (heads.map vint)) (hl : heads.length < 1000000) (hw : w.length ≤ 1000000)
  (hK0 : askE p heads w ≠ 0 → ∀ H', SameX [] H H' → K (.tuple ⟨[.slice none 0 0, vint (askE p heads w)]⟩) H')
  (hK1 : askE p heads w = 0 → ∀ H' v, SameX [] H H' → Sli H' v 1 (daysR (shortAt p heads w) w.length).length ((daysR (shortAt p heads w) w.length).map vint) → K (.tuple ⟨[v, vint 0]⟩) H') : Good prog J 10 [.agg ⟨p.cells⟩, hv, strV w] H K := by
 refine g10 hJ fun ok => ?_
 rw [e10]
 refine qBox (l := p.cells) rfl fun H1 p1 e1 S1 c1 l1 => load_part (c := p.cells) c1 (by simp [Pas.cells]) rfl rfl ?_
 refine good27 hJ (S1.sli sh (by simp)) hl hw fun H2 S2 => neqI (cndI (fun h1 => retL_same (by simp [unk]) (hK0 h1 H2 (S1.trans S2))) fun h1 => ?_)
 have h1 := Classical.not_not.1 h1
 obtain ⟨fp, fw, fl, fh, fo⟩ := askE_ok h1
 have T2 := S1.trans S2
 refine qAl fun H3 q e3 S3 c3 l3 => load_part (c := p.cells) (S3.get (S2.get c1 (by simp)) (by simp)) (by simp [Pas.cells]) rfl rfl ⟨rfl, ?_⟩
 have T3 := T2.trans S3
 have hqH : H.length ≤ q := by
  have := T2.1
  omega
 refine good28 hJ fp fh T3 sh (by omega) (by omega) (O0 := [q]) (fun x hx => by rw [List.mem_singleton.1 hx]; exact hqH)
  (I := fun k O H1 => ∃ v o, H1[q]? = some (.cells [v] true 0) ∧ OwnX H1 1 ((daysR (shortAt p heads w) k).map vint) (daysR (shortAt p heads w) k).length v o ∧ o ≠ some q ∧ O = q :: o.toList)
  ⟨_, none, c3, ⟨rfl, rfl, .inl ⟨rfl, rfl, rfl⟩⟩, by simp, rfl⟩ (fun k O H1 ⟨v, o, hq, ho, hne, e⟩ x hx => ?_) (fun k O H1 H2 X ⟨v, o, hq, ho, hne, e⟩ S hX => ?_) (fun k O H1 K1 ⟨v, o, hq, ho, hne, e⟩ hk hk1 => ?_) fun O H' ⟨v, o, hq, ho, hne, e⟩ S => ?_
 ·rw [e] at hx
  rcases List.mem_cons.1 hx with rfl | hx
  ·exact lt_of_get hq
  ·exact ownX_lt ho x (by simpa using hx)
 ·refine ⟨v, o, S.get hq (hX q (by rw [e]; simp)), ownX_keep ho S (fun i hi => hX i (by rw [e, hi]; simp)), hne, e⟩
 ·have hf := daysR_few (q := shortAt p heads w) (k := k)
  refine callCz (by kernel_rfl) (good29 hJ hq ho hne (by omega) fun H2 v' o' S' hq' ho' hne' hnew => hk1 (q :: o'.toList) H2 _ ⟨v', o', hq', by rw [daysR_succ]; exact ho', hne', rfl⟩ (by rw [e]; exact S') fun x hx => ?_)
  rcases List.mem_cons.1 hx with rfl | hx
  ·exact .inl (by rw [e]; simp)
  ·rcases hnew x (by simpa using hx) with h | h
   ·exact .inl (by rw [e, h]; simp)
   ·exact .inr h
 ·have kv := (ownX_val ho).2.2
  refine ldI (v := v) hq rfl kv (retL_same ?_ (hK1 h1 H' v ?_ (ownX_sli ho)))
  ·intro x hx
   simp only [List.mem_cons, List.not_mem_nil, or_false] at hx
   rcases hx with rfl | rfl
   ·exact ownU ho
   ·simp [unk]
  ·exact T3.thru S fun x hx => .inr (by rw [List.mem_singleton.1 hx]; exact hqH)
theorem good30 (hJ : Closed prog main J) {q j : Nat} {b : Bool} {a1 a2 v : Value} {xs : List Int} {o : Option Nat} (hq : H[q]? = some (.cells [v] true 0)) (O : OwnX H 1 (xs.map vint) xs.length v o) (hne : o ≠ some q) (hk : xs.length < 100000)
  (hK : ∀ H' v' o', SameX (q :: o.toList) H H' → H'[q]? = some (.cells [v'] true 0) → OwnX H' 1 ((xs ++ if b = true then [(j : Int)] else []).map vint) (xs ++ if b = true then [(j : Int)] else []).length v' o' → o' ≠ some q → (∀ i, o' = some i → o = some i ∨ H.length ≤ i) → K (pack []) H') : Good prog J 30 [vint (j : Nat), a1, .bool b, a2, ptr q 0] H K := by
 refine g30 hJ fun ok => ?_
 rw [e30]
 have kv := (ownX_val O).2.2
 refine cndB (fun hb => ?_) fun hb => ?_
 ·rw [hb, if_pos rfl] at hK
  refine ldI (v := v) hq rfl kv ⟨⟨by decide, by decide, rfl⟩, fillO (l := [vint (j : Nat)]) rfl rfl rfl (by decide) (fillI (qNew fun H1 p1 e1 S1 c1 l1 => ?_))⟩
  have hq1 := S1.get hq (by simp)
  have lq := lt_of_get hq
  refine ⟨⟨rfl, by decide, by decide, by decide⟩, ownX_more (ownX_keep O S1 (by simp)) (by decide) hk (e := [vint (j : Nat)]) ⟨_, _, rfl, ⟨rfl, rfl⟩, .inr ⟨p1, 0, rfl, .inr ⟨_, _, _, c1, rfl⟩⟩⟩ fun v' H2 p2 e2 O2 S2 => ?_⟩
  have hq2 : H2[q]? = some (.cells [v] true 0) := S2.get hq1 (by
   cases o with
   | none => simp
   | some i => simp; exact fun e => hne (by rw [e]))
  have vv := ownX_val O2
  refine qSt hq2 (by simp) vv.1 vv.2.1 fun H3 S3 c3 l3 => retL_same (by simp) (hK H3 v' (some p2) ?_ c3 ?_ (by simp; omega) fun i hi => by cases hi; right; omega)
  ·refine ((S1.weak0.thru S2 fun y hy => .inl (by simp [hy])).thru S3 fun y hy => .inl (by simp at hy; simp [hy]) : SameX (q :: o.toList) H H3)
  ·rw [List.map_append, List.length_append]
   exact ownX_keep O2 S3 (fun i hi => by cases hi; simp; omega)
 ·rw [hb, if_neg (by decide), List.append_nil] at hK
  exact retL_same (by simp) (hK H v o SameX.refl hq O hne fun i hi => .inl hi)
theorem good11 (hJ : Closed prog main J) {p : Pas} {heads : List Int} {w : List UInt8} {hv : Value} (sh : Sli H hv 1 heads.length (heads.map vint)) (hl : heads.length < 1000000) (hw : w.length ≤ 1000000)
  (hK0 : askE p heads w ≠ 0 → ∀ H', SameX [] H H' → K (.tuple ⟨[.slice none 0 0, vint (askE p heads w)]⟩) H')
  (hK1 : askE p heads w = 0 → ∀ H' v, SameX [] H H' → Sli H' v 1 (daysR (hungAt p heads w) w.length).length ((daysR (hungAt p heads w) w.length).map vint) → K (.tuple ⟨[v, vint 0]⟩) H') : Good prog J 11 [.agg ⟨p.cells⟩, hv, strV w] H K := by
 refine g11 hJ fun ok => ?_
 rw [e11]
 refine qBox (l := p.cells) rfl fun H1 p1 e1 S1 c1 l1 => load_part (c := p.cells) c1 (by simp [Pas.cells]) rfl rfl ?_
 refine good27 hJ (S1.sli sh (by simp)) hl hw fun H2 S2 => neqI (cndI (fun h1 => retL_same (by simp [unk]) (hK0 h1 H2 (S1.trans S2))) fun h1 => ?_)
 have h1 := Classical.not_not.1 h1
 obtain ⟨fp, fw, fl, fh, fo⟩ := askE_ok h1
 have T2 := S1.trans S2
 refine qAl fun H3 q e3 S3 c3 l3 => load_part (c := p.cells) (S3.get (S2.get c1 (by simp)) (by simp)) (by simp [Pas.cells]) rfl rfl ⟨rfl, ?_⟩
 have T3 := T2.trans S3
 have hqH : H.length ≤ q := by
  have := T2.1
  omega
 refine good28 hJ fp fh T3 sh (by omega) (by omega) (O0 := [q]) (fun x hx => by rw [List.mem_singleton.1 hx]; exact hqH)
  (I := fun k O H1 => ∃ v o, H1[q]? = some (.cells [v] true 0) ∧ OwnX H1 1 ((daysR (hungAt p heads w) k).map vint) (daysR (hungAt p heads w) k).length v o ∧ o ≠ some q ∧ O = q :: o.toList)
  ⟨_, none, c3, ⟨rfl, rfl, .inl ⟨rfl, rfl, rfl⟩⟩, by simp, rfl⟩ (fun k O H1 ⟨v, o, hq, ho, hne, e⟩ x hx => ?_) (fun k O H1 H2 X ⟨v, o, hq, ho, hne, e⟩ S hX => ?_) (fun k O H1 K1 ⟨v, o, hq, ho, hne, e⟩ hk hk1 => ?_) fun O H' ⟨v, o, hq, ho, hne, e⟩ S => ?_
 ·rw [e] at hx
  rcases List.mem_cons.1 hx with rfl | hx
  ·exact lt_of_get hq
  ·exact ownX_lt ho x (by simpa using hx)
 ·refine ⟨v, o, S.get hq (hX q (by rw [e]; simp)), ownX_keep ho S (fun i hi => hX i (by rw [e, hi]; simp)), hne, e⟩
 ·have hf := daysR_few (q := hungAt p heads w) (k := k)
  refine callCz (by kernel_rfl) (good30 hJ hq ho hne (by omega) fun H2 v' o' S' hq' ho' hne' hnew => hk1 (q :: o'.toList) H2 _ ⟨v', o', hq', by rw [daysR_succ]; exact ho', hne', rfl⟩ (by rw [e]; exact S') fun x hx => ?_)
  rcases List.mem_cons.1 hx with rfl | hx
  ·exact .inl (by rw [e]; simp)
  ·rcases hnew x (by simpa using hx) with h | h
   ·exact .inl (by rw [e, h]; simp)
   ·exact .inr h
 ·have kv := (ownX_val ho).2.2
  refine ldI (v := v) hq rfl kv (retL_same ?_ (hK1 h1 H' v ?_ (ownX_sli ho)))
  ·intro x hx
   simp only [List.mem_cons, List.not_mem_nil, or_false] at hx
   rcases hx with rfl | rfl
   ·exact ownU ho
   ·simp [unk]
  ·exact T3.thru S fun x hx => .inr (by rw [List.mem_singleton.1 hx]; exact hqH)
end
def full : Pas := { mead with grass := 21 }
def poor : Pas := { mead with wet := 0 }
def seas2 : SkyR := ⟨2, 1, 2⟩
def wdsA : List (List UInt8) := [[100, 100, 119], [100, 119, 100], [100, 119, 119], [119, 100, 100], [119, 100, 119], [119, 119, 100]]
def wdsB : List (List UInt8) := [[100, 119], [119, 100], [119, 119]]
theorem y_chk : pasE mead = 0 ∧ pasE full = 1 ∧ pasE poor = 1 := by decide +kernel
theorem y_rns : skyE seas = 0 ∧ rainsB seas = wdsA ∧ skyE seas2 = 0 ∧ rainsB seas2 = wdsB := by decide +kernel
theorem y_btn : askE mead fives [100, 119, 100] = 0 ∧ daysR (shortAt mead fives [100, 119, 100]) 3 = [2] := by decide +kernel
theorem y_hgr : askE mead fives [100, 119, 100] = 0 ∧ daysR (hungAt mead fives [100, 119, 100]) 3 = [] := by decide +kernel
theorem y_ens : askE mead fives [100, 100, 100] = 0 ∧ endsZ mead fives [100, 100, 100] 3 = [8, 4, 0] := by decide +kernel
theorem y_hg2 : daysR (hungAt mead fives [100, 100, 100]) 3 = [2] := by decide +kernel
theorem y_en2 : askE mead [10, 0, 0, 0] [119, 119, 119, 119] = 0 ∧ endsZ mead [10, 0, 0, 0] [119, 119, 119, 119] 4 = [2, 2, 2, 6] := by decide +kernel
theorem y_err : askE mead [5, 5] [100, 119, 100] = 7 ∧ askE mead fives [100, 120, 100] = 2 ∧ askE mead [5] [] = 7 := by decide +kernel
theorem y_fds : feedN mead fives seas = 3 ∧ ckdE mead fives seas = 0 := by decide +kernel
theorem y_hds : headN mead seas 0 1 = 12 ∧ headE mead seas 0 1 = 0 ∧ headN mead seas 2 1 = 14 ∧ headE mead seas 2 1 = 0 := by decide +kernel
theorem y_lng : lngD (fun d => stayB mead seas 5 ((0 : Nat) : Int) d) 3 = 2 ∧ lngD (fun d => stayB mead seas 13 ((0 : Nat) : Int) d) 3 = 0 := by decide +kernel
theorem y_agn : agnV mead [5, 5, 0] seas 0 6 = (0, 0) ∧ agnV mead [5, 5, 0] seas 1 5 = (2, 0) ∧ agnV mead [5, 5, 0] seas 0 12 = (0, 11) := by decide +kernel
theorem y_rdy : rdyV mead seas 13 1 0 = (1, 0) ∧ rdyV mead seas 14 1 0 = (2, 0) ∧ rdyV mead seas 15 1 0 = (0, 11) := by decide +kernel
theorem y_trn : foundR [mead] seas 6 2 0 = none := by decide +kernel
section
variable {W0 : World} {Post : Value → World → Prop} {h H : List AObj} {K : Value → List AObj → Prop} {n0 : Nat} {F : RG} {KV : Value → Prop}
theorem sliI {p : Nat} {l : List Int} {n : Nat} (hc : H[p]? = some (.cells (l.map vint) true 0)) (hn : l.length = n) : Sli H (.slice (some ⟨p, 0, none⟩) n n) 1 l.length (l.map vint) := by
 subst hn
 exact ownX_sli (ownX_new (s := 1) (n := l.length) hc (by simp) (kn_ints _))
theorem sliS {p : Nat} {l : List (List UInt8)} {n : Nat} (hc : H[p]? = some (.cells (strL l) true 0)) (hn : l.length = n) : Sli H (.slice (some ⟨p, 0, none⟩) n n) 1 l.length (strL l) := by
 subst hn
 exact ownX_sli (ownX_new (s := 1) (n := l.length) hc (by simp [strL]) (kn_strL l))
theorem eqlG (hk : KV (.bool true)) : aBin prog .eql 9 (strV textG) (Value.string { data := #[103, 114, 97, 115, 115, 32, 49, 50, 32, 111, 102, 32, 50, 48, 32, 103, 114, 111, 119, 115, 32, 49, 32, 116, 111, 32, 52, 10, 98, 101, 108, 111, 119, 32, 51, 32, 115, 108, 101, 101, 112, 115, 32, 50, 10, 115, 107, 121, 32, 51, 32, 100, 114, 121, 32, 50, 32, 119, 101, 116, 32, 50, 10] }) KV := by
 have e : aBin prog .eql 9 (strV textG) (Value.string { data := #[103, 114, 97, 115, 115, 32, 49, 50, 32, 111, 102, 32, 50, 48, 32, 103, 114, 111, 119, 115, 32, 49, 32, 116, 111, 32, 52, 10, 98, 101, 108, 111, 119, 32, 51, 32, 115, 108, 101, 101, 112, 115, 32, 50, 10, 115, 107, 121, 32, 51, 32, 100, 114, 121, 32, 50, 32, 119, 101, 116, 32, 50, 10] }) KV = KV (.bool true) := by kernel_rfl
 rw [e]
 exact hk
theorem okE {a : Int} {t : TypeId} {A B : Value → Prop} (hb : B (.bool (decide (a ≠ a)))) : aBin prog .neq t (vint a) (vint a) fun v => cnd v (A v) (B v) := neqI (cndI (fun h => absurd rfl h) fun _ => hb)
theorem okN {A B : Value → Prop} (hb : B (.bool (!true))) : aUn .not (.bool true) fun v => cnd v (A v) (B v) := notI (cnd_false.2 hb)
theorem isE {a : Int} {t : TypeId} {A B : Value → Prop} (hb : A (.bool (decide (a = a)))) : aBin prog .eql t (vint a) (vint a) fun v => cnd v (A v) (B v) := eqlI (cndI (fun _ => hb) fun h => absurd rfl h)
theorem smiT {main : Bool} {J : JT} (hJ : Closed prog main J) {av bv : Value} {xs ys : List Int} (sa : Sli H av 1 xs.length (xs.map vint)) (sb : Sli H bv 1 ys.length (ys.map vint)) (he : xs = ys) (hl : xs.length < 1000000) (hK : K (.bool true) H) : Good prog J 13 [av, bv] H K := by
 subst he
 refine good13 hJ sa sb (by omega) ?_
 rw [decide_eq_true rfl]
 exact hK
theorem nF {H : List AObj} (ds : F.ds = []) (hk : K (.bool true) H) : retL n0 K F.ds [.bool true] H := by
 rw [ds]
 exact retL_same (by simp [unk]) hk
set_option maxHeartbeats 2000000 in
theorem gk7 (ds : F.ds = []) (r297 : F.r 297 = .bool false) (hK : ∀ H, K (.bool true) H) :
  W prog (J2 prog W0 Post) 359 n0 3 (subC [1, 1, 1, 1, 1, 1, 1, 1, 1, 1, 1, 1, 1, 1, 1, 1, 1, 1, 1, 1, 1, 1, 1, 1, 1, 1, 0, 1] (codeOf f3)) F H (contX pl3 prog (J2 prog W0 Post) 359 n0 3 ct3 [1, 1, 1, 1, 1, 1, 1, 1, 1, 1, 1, 1, 1, 1, 1, 1, 1, 1, 1, 1, 1, 1, 1, 1, 1, 1, 0, 1] (codeOf f3) [] (RetQ prog [.tmp 0] n0 K)) := by
 have hJ := J2.closed prog W0 Post
 rw [s3_7, r297]
 refine cnd_false.2 (good4 hJ fun H1 S1 => good8 hJ fun H2 S2 => good18 hJ fun H3 S3 => ?_)
 rw [y_rdy.1]
 refine ext0 (ext1 (good4 hJ fun H4 S4 => good8 hJ fun H5 S5 => good18 hJ fun H6 S6 => ?_))
 rw [y_rdy.2.1]
 refine ext0 (ext1 (good4 hJ fun H7 S7 => good8 hJ fun H8 S8 => good18 hJ fun H9 S9 => ?_))
 rw [y_rdy.2.2]
 refine ext0 (ext1 (good4 hJ fun H10 S10 => ⟨⟨by decide, by decide, rfl⟩, fillO (l := mead.cells) rfl rfl rfl (by decide) (fillI (qNew fun H11 p11 e11 S11 c11 l11 => good8 hJ fun H12 S12 => ?_))⟩))
 have c11 : H11[p11]? = some (.cells ([mead].flatMap Pas.cells) true 0) := c11
 have hl : SliE H12 (.slice (some ⟨p11, 0, none⟩) 1 1) 6 Pas.cells [mead] := S12.sli (ownX_sli (ownX_new (s := 6) (n := 1) c11 rfl rfl)) (by simp)
 refine turn1 (q := mead) (s := seas) (heads := 6) (by decide) (by decide) (by decide) 2 rfl hl ?_
 rw [y_trn]
 intro H13 S13
 refine ext0 (ext1 (good4 hJ fun H14 S14 => good8 hJ fun H15 S15 => good20 hJ fun H16 S16 => ext0 (ext1 ?_)))
 refine isE (isE (isE (isE (isE (isE (isE (eqlG (nF ds (hK _))))))))) 
theorem gk6 {nx0 : RG → List AObj → Prop} {i : Nat} (hi : i < 2) (r20 : F.r 20 = vint (i : Nat)) (r230 : F.r 230 = .bool false) (hn : ∀ F', F'.ds = F.ds → F'.r 17 = F.r 17 → F'.r 18 = F.r 18 → F'.r 19 = F.r 19 → F'.r 20 = vint ((i + 1 : Nat) : Int) → nx0 F' H) :
  W prog (J2 prog W0 Post) 359 n0 3 (subC [1, 1, 1, 1, 1, 1, 1, 1, 1, 1, 1, 1, 1, 1, 1, 1, 1, 1, 1, 1, 0, 1, 0, 0, 1, 0, 0, 1, 1] (codeOf f3)) F H (contX pl3 prog (J2 prog W0 Post) 359 n0 3 ct3 [1, 1, 1, 1, 1, 1, 1, 1, 1, 1, 1, 1, 1, 1, 1, 1, 1, 1, 1, 1, 0, 1, 0, 0, 1, 0, 0, 1, 1] (codeOf f3) [nx0] (RetQ prog [.tmp 0] n0 K)) := by
 rw [s3_6, r20, r230]
 exact cnd_false.2 (addI (by omega) (hn _ rfl rfl rfl rfl (by show vint _ = vint _; congr 1)))
set_option maxHeartbeats 2000000 in
theorem gk4 (ds : F.ds = []) (r197 : F.r 197 = .bool false) (hK : ∀ H, K (.bool true) H) :
  W prog (J2 prog W0 Post) 359 n0 3 (subC [1, 1, 1, 1, 1, 1, 1, 1, 1, 1, 1, 1, 1, 1, 1, 1, 1, 1, 0, 1] (codeOf f3)) F H (contX pl3 prog (J2 prog W0 Post) 359 n0 3 ct3 [1, 1, 1, 1, 1, 1, 1, 1, 1, 1, 1, 1, 1, 1, 1, 1, 1, 1, 0, 1] (codeOf f3) [] (RetQ prog [.tmp 0] n0 K)) := by
 have hJ := J2.closed prog W0 Post
 rw [s3_4, r197]
 refine cnd_false.2 ⟨⟨by decide, by decide, rfl⟩, ?_⟩
 refine fillO (l := [vint 0]) rfl rfl rfl (by decide) (fillO (l := [vint 2]) rfl rfl rfl (by decide) (fillI (qNew fun H1 p1 e1 S1 c1 l1 => ⟨⟨by decide, by decide, rfl⟩, ?_⟩)))
 refine fillO (l := [vint 1]) rfl rfl rfl (by decide) (fillO (l := [vint 1]) rfl rfl rfl (by decide) (fillI (qNew fun H2 p2 e2 S2 c2 l2 => ⟨⟨by decide, by decide, rfl⟩, ?_⟩)))
 refine fillO (l := [vint 12]) rfl rfl rfl (by decide) (fillO (l := [vint 14]) rfl rfl rfl (by decide) (fillI (qNew fun H3 p3 e3 S3 c3 l3 => ?_)))
 have k1 : H3[p1]? = some (.cells (([0, 2] : List Int).map vint) true 0) := S3.get (S2.get c1 (by simp)) (by simp)
 have k2 : H3[p2]? = some (.cells (([1, 1] : List Int).map vint) true 0) := S3.get c2 (by simp)
 have k3 : H3[p3]? = some (.cells (([12, 14] : List Int).map vint) true 0) := c3
 refine l3_5 hJ (fun i : Nat => 2 - i) (fun i F' H' => i ≤ 2 ∧ SameX [] H3 H' ∧ F'.ds = [] ∧ F'.r 17 = .slice (some ⟨p1, 0, none⟩) 2 2 ∧ F'.r 18 = .slice (some ⟨p2, 0, none⟩) 2 2 ∧ F'.r 19 = .slice (some ⟨p3, 0, none⟩) 2 2 ∧ F'.r 20 = vint (i : Nat)) ?_ (s := 0)
  (.inl ⟨by omega, SameX.refl, ds, rfl, rfl, rfl, rfl⟩)
 rintro i F' H' ⟨hi, S, ds', r17, r18, r19, r20⟩ okc hnc
 rw [s3_5, r17, r18, r19, r20]
 have g1 := S.get k1 (by simp)
 have g2 := S.get k2 (by simp)
 have g3 := S.get k3 (by simp)
 refine lenI (sliI g1 rfl) (lssI (cndI (fun hlt => ?_) fun _ => ?_))
 ·have hi2 : i < 2 := by
   have : ((([0, 2] : List Int).length : Nat) : Int) = 2 := rfl
   omega
  have b1 := lt_of_get g1
  have b2 := lt_of_get g2
  have sb : ∀ {H4 : List AObj}, SameX [] H' H4 → SameB (some [p1, p2]) H' H4 := fun S => sbTwo S b1 b2 (by simp) (by simp)
  obtain ⟨x, y, z, hx, hy, hz, q1, q2⟩ : ∃ x y z : Int, ([0, 2] : List Int)[i]? = some x ∧ ([1, 1] : List Int)[i]? = some y ∧ ([12, 14] : List Int)[i]? = some z ∧ headN mead seas x y = z ∧ headE mead seas x y = 0 := by
   match i, hi2 with
   | 0, _ => exact ⟨0, 1, 12, rfl, rfl, rfl, y_hds.1, y_hds.2.1⟩
   | 1, _ => exact ⟨2, 1, 14, rfl, rfl, rfl, y_hds.2.2.1, y_hds.2.2.2⟩
  have get : ∀ {p : Nat} {l : List Int} {v : Int} {KI : Value → Value → Prop} {H4 : List AObj}, H4[p]? = some (.cells (l.map vint) true 0) → l[i]? = some v → (∀ o, KI (ptr p o) (vint v)) → aIdx 1 (.slice (some ⟨p, 0, none⟩) 2 2) (vint (i : Nat)) fun q => aLoad false 1 q H4 (KI q) := fun {p l v KI H4} hb hv hk => by
   refine idxI ⟨by omega, by omega⟩ ?_
   rw [Int.toNat_natCast, Nat.zero_add, Nat.mul_one]
   exact ldI hb (by rw [List.getElem?_map, hv]; rfl) rfl (hk _)
  refine ⟨[p1, p2], get g1 hx fun o => ⟨by simp [RdOk, ptrBlk], get g2 hy fun o => ⟨by simp [RdOk, ptrBlk], good4 hJ fun H4 S4 => ⟨sb S4, good8 hJ fun H5 S5 => ⟨sb (S4.trans S5), good15 hJ fun H6 S6 => ?_⟩⟩⟩⟩⟩
  rw [q1, q2]
  have T := (S4.trans S5).trans S6
  refine ext0 (ext1 (okE (get (T.get g3 (by simp)) hz fun o => neqI (hold.2 (gk6 hi2 r20 (by show Value.bool (decide (z ≠ z)) = _; simp) fun F2 d0 q17 q18 q19 q20 => ?_)))))
  exact ⟨i + 1, by dsimp only; omega, .inl ⟨by omega, S.trans T, d0.trans ds', q17.trans r17, q18.trans r18, q19.trans r19, q20⟩⟩
 ·refine good4 hJ fun H4 S4 => good8 hJ fun H5 S5 => good16 hJ (fr := 0) (D := 3) (by decide) (by decide) (by decide) (by decide) (by decide) fun H6 S6 => ?_
  rw [y_lng.1]
  refine ext0 (ext1 (good4 hJ fun H7 S7 => good8 hJ fun H8 S8 => good16 hJ (fr := 0) (D := 3) (by decide) (by decide) (by decide) (by decide) (by decide) fun H9 S9 => ?_))
  rw [y_lng.2]
  refine ext0 (ext1 (good4 hJ fun H10 S10 => ⟨⟨by decide, by decide, rfl⟩, fill3 (qNew fun H11 p11 e11 S11 c11 l11 => good8 hJ fun H12 S12 => good17 hJ (hs := [5, 5, 0]) (S12.sli (sli3 c11) (by simp)) (by decide) fun H13 S13 => ?_)⟩))
  rw [y_agn.1]
  refine ext0 (ext1 (good4 hJ fun H14 S14 => ⟨⟨by decide, by decide, rfl⟩, fill3 (qNew fun H15 p15 e15 S15 c15 l15 => good8 hJ fun H16 S16 => good17 hJ (hs := [5, 5, 0]) (S16.sli (sli3 c15) (by simp)) (by decide) fun H17 S17 => ?_)⟩))
  rw [y_agn.2.1]
  refine ext0 (ext1 (good4 hJ fun H18 S18 => ⟨⟨by decide, by decide, rfl⟩, fill3 (qNew fun H19 p19 e19 S19 c19 l19 => good8 hJ fun H20 S20 => good17 hJ (hs := [5, 5, 0]) (S20.sli (sli3 c19) (by simp)) (by decide) fun H21 S21 => ?_)⟩))
  rw [y_agn.2.2]
  refine ext0 (ext1 (okE (okE (okE (okE (okE (okE (okE (okE (neqI (hold.2 (gk7 (Eq.trans (b := F'.ds) (by kernel_rfl) ds') (by kernel_rfl) hK))))))))))))
set_option maxHeartbeats 2000000 in
theorem gk3 (ds : F.ds = []) (r154 : F.r 154 = .bool false) {v7 : Value} (r7 : F.r 7 = v7) (s7 : Sli H v7 1 fives.length (fives.map vint)) (hK : ∀ H, K (.bool true) H) :
  W prog (J2 prog W0 Post) 359 n0 3 (subC [1, 1, 1, 1, 1, 1, 1, 1, 1, 1, 1, 1, 1, 0, 1] (codeOf f3)) F H (contX pl3 prog (J2 prog W0 Post) 359 n0 3 ct3 [1, 1, 1, 1, 1, 1, 1, 1, 1, 1, 1, 1, 1, 0, 1] (codeOf f3) [] (RetQ prog [.tmp 0] n0 K)) := by
 have hJ := J2.closed prog W0 Post
 rw [s3_3, r154, r7]
 refine cnd_false.2 (good4 hJ fun H1 S1 => ⟨⟨by decide, by decide, rfl⟩, fillO (l := [vint 5]) rfl rfl rfl (by decide) (fillO (l := [vint 5]) rfl rfl rfl (by decide) (fillI (qNew fun H2 p2 e2 S2 c2 l2 => ?_)))⟩)
 refine good12 hJ (p := mead) (heads := [5, 5]) (w := [100, 119, 100]) (sliI (l := [5, 5]) c2 rfl) (by decide) (by decide) (fun _ H3 S3 => ?_) fun h => absurd h (by rw [y_err.1]; decide)
 rw [y_err.1]
 have T3 := (S1.trans S2).trans S3
 refine ext0 (ext1 (good4 hJ fun H4 S4 => ?_))
 have T4 := T3.trans S4
 refine good12 hJ (p := mead) (heads := fives) (w := [100, 120, 100]) (T4.sli s7 (by simp)) (by decide) (by decide) (fun _ H5 S5 => ?_) fun h => absurd h (by rw [y_err.2.1]; decide)
 rw [y_err.2.1]
 have T5 := T4.trans S5
 refine ext0 (ext1 (good4 hJ fun H6 S6 => ⟨⟨by decide, by decide, rfl⟩, fillO (l := [vint 5]) rfl rfl rfl (by decide) (fillI (qNew fun H7 p7 e7 S7 c7 l7 => ?_))⟩))
 refine good12 hJ (p := mead) (heads := [5]) (w := []) (sliI (l := [5]) c7 rfl) (by decide) (by decide) (fun _ H8 S8 => ?_) fun h => absurd h (by rw [y_err.2.2]; decide)
 rw [y_err.2.2]
 have T8 := ((T5.trans S6).trans S7).trans S8
 refine ext0 (ext1 (good4 hJ fun H9 S9 => good8 hJ fun H10 S10 => ?_))
 refine good14 hJ (hs := fives) (((T8.trans S9).trans S10).sli s7 (by simp)) (by decide) fun H11 S11 => ?_
 rw [y_fds.1, y_fds.2]
 exact ext0 (ext1 (okE (okE (okE (okE (neqI (hold.2 (gk4 (Eq.trans (b := F.ds) (by kernel_rfl) ds) (by kernel_rfl) hK))))))))
set_option maxHeartbeats 2000000 in
theorem gk2 (ds : F.ds = []) (r76 : F.r 76 = .bool false) (hK : ∀ H, K (.bool true) H) :
  W prog (J2 prog W0 Post) 359 n0 3 (subC [1, 1, 1, 1, 1, 1, 0, 1] (codeOf f3)) F H (contX pl3 prog (J2 prog W0 Post) 359 n0 3 ct3 [1, 1, 1, 1, 1, 1, 0, 1] (codeOf f3) [] (RetQ prog [.tmp 0] n0 K)) := by
 have hJ := J2.closed prog W0 Post
 rw [s3_2, r76]
 refine cnd_false.2 ⟨⟨by decide, by decide, rfl⟩, fill3 (qNew fun H1 p1 e1 S1 c1 l1 => good4 hJ fun H2 S2 => ?_)⟩
 have s7 : Sli H1 (.slice (some ⟨p1, 0, none⟩) 3 3) 1 fives.length (fives.map vint) := sli3 c1
 have T2 := S2
 refine good10 hJ (p := mead) (heads := fives) (w := [100, 119, 100]) (T2.sli s7 (by simp)) (by decide) (by decide) (fun h => absurd y_btn.1 h) fun _ H3 v3 S3 s3 => ext0 (ext1 ?_)
 rw [show ([100, 119, 100] : List UInt8).length = 3 from rfl, y_btn.2] at s3
 have T3 := T2.trans S3
 refine good4 hJ fun H4 S4 => ?_
 have T4 := T3.trans S4
 refine good11 hJ (p := mead) (heads := fives) (w := [100, 119, 100]) (T4.sli s7 (by simp)) (by decide) (by decide) (fun h => absurd y_hgr.1 h) fun _ H5 v5 S5 s5 => ext0 (ext1 ?_)
 rw [show ([100, 119, 100] : List UInt8).length = 3 from rfl, y_hgr.2] at s5
 have T5 := T4.trans S5
 refine good4 hJ fun H6 S6 => ?_
 have T6 := T5.trans S6
 refine good12 hJ (p := mead) (heads := fives) (w := [100, 100, 100]) (T6.sli s7 (by simp)) (by decide) (by decide) (fun h => absurd y_ens.1 h) fun _ H7 v7 S7 s7' => ext0 (ext1 ?_)
 rw [show ([100, 100, 100] : List UInt8).length = 3 from rfl, y_ens.2] at s7'
 have T7 := T6.trans S7
 refine good4 hJ fun H8 S8 => ?_
 have T8 := T7.trans S8
 refine good11 hJ (p := mead) (heads := fives) (w := [100, 100, 100]) (T8.sli s7 (by simp)) (by decide) (by decide) (fun h => absurd y_ens.1 h) fun _ H9 v9 S9 s9 => ext0 (ext1 ?_)
 rw [show ([100, 100, 100] : List UInt8).length = 3 from rfl, y_hg2] at s9
 have T9 := T8.trans S9
 refine good4 hJ fun H10 S10 => ⟨⟨by decide, by decide, rfl⟩, ?_⟩
 refine fillO (l := [vint 10]) rfl rfl rfl (by decide) (fillO (l := [vint 0]) rfl rfl rfl (by decide) (fillO (l := [vint 0]) rfl rfl rfl (by decide) (fillO (l := [vint 0]) rfl rfl rfl (by decide) (fillI (qNew fun H11 p11 e11 S11 c11 l11 => ?_)))))
 have T11 := (T9.trans S10).trans S11
 refine good12 hJ (p := mead) (heads := [10, 0, 0, 0]) (w := [119, 119, 119, 119]) (sliI (l := [10, 0, 0, 0]) c11 rfl) (by decide) (by decide) (fun h => absurd y_en2.1 h) fun _ H12 v12 S12 s12 => ext0 (ext1 ?_)
 rw [show ([119, 119, 119, 119] : List UInt8).length = 4 from rfl, y_en2.2] at s12
 have T12 := T11.trans S12
 have U3 : SameX [] H3 H12 := ((((((((S4.trans S5).trans S6).trans S7).trans S8).trans S9).trans S10).trans S11).trans S12)
 have U5 : SameX [] H5 H12 := ((((((S6.trans S7).trans S8).trans S9).trans S10).trans S11).trans S12)
 have U7 : SameX [] H7 H12 := ((((S8.trans S9).trans S10).trans S11).trans S12)
 have U9 : SameX [] H9 H12 := ((S10.trans S11).trans S12)
 have a3 := U3.sli s3 (by simp)
 have a5 := U5.sli s5 (by simp)
 have a7 := U7.sli s7' (by simp)
 have a9 := U9.sli s9 (by simp)
 refine okE (okE (okE (okE (okE (lenI a5 (gtrI (cndI (fun h => absurd h (by decide)) fun _ => ⟨⟨by decide, by decide, rfl⟩, ?_⟩)))))))
 refine fillO (l := [vint 2]) rfl rfl rfl (by decide) (fillI (qNew fun H13 p13 e13 S13 c13 l13 => ?_))
 refine smiT hJ (xs := [2]) (ys := [2]) (S13.sli a3 (by simp)) (sliI (l := [2]) c13 rfl) rfl (by decide) (okN ⟨⟨by decide, by decide, rfl⟩, fill3 (qNew fun H14 p14 e14 S14 c14 l14 => ?_)⟩)
 have R14 := S13.trans S14
 refine smiT hJ (xs := [8, 4, 0]) (ys := [8, 4, 0]) (R14.sli a7 (by simp)) (sli3 c14) rfl (by decide) (okN ⟨⟨by decide, by decide, rfl⟩, ?_⟩)
 refine fillO (l := [vint 2]) rfl rfl rfl (by decide) (fillI (qNew fun H15 p15 e15 S15 c15 l15 => ?_))
 have R15 := R14.trans S15
 refine smiT hJ (xs := [2]) (ys := [2]) (R15.sli a9 (by simp)) (sliI (l := [2]) c15 rfl) rfl (by decide) (okN ⟨⟨by decide, by decide, rfl⟩, ?_⟩)
 refine fillO (l := [vint 2]) rfl rfl rfl (by decide) (fillO (l := [vint 2]) rfl rfl rfl (by decide) (fillO (l := [vint 2]) rfl rfl rfl (by decide) (fillO (l := [vint 6]) rfl rfl rfl (by decide) (fillI (qNew fun H16 p16 e16 S16 c16 l16 => ?_)))))
 have R16 := R15.trans S16
 refine smiT hJ (xs := [2, 2, 2, 6]) (ys := [2, 2, 2, 6]) (R16.sli s12 (by simp)) (sliI (l := [2, 2, 2, 6]) c16 rfl) rfl (by decide) (notI (hold.2 ?_))
 exact gk3 (Eq.trans (b := F.ds) (by kernel_rfl) ds) (by kernel_rfl) (v7 := .slice (some ⟨p1, 0, none⟩) 3 3) (by kernel_rfl) ((T12.trans R16).sli s7 (by simp)) hK
set_option maxHeartbeats 2000000 in
theorem gk1 (ds : F.ds = []) (r48 : F.r 48 = .bool false) (hK : ∀ H, K (.bool true) H) :
  W prog (J2 prog W0 Post) 359 n0 3 (subC [1, 1, 1, 0, 1] (codeOf f3)) F H (contX pl3 prog (J2 prog W0 Post) 359 n0 3 ct3 [1, 1, 1, 0, 1] (codeOf f3) [] (RetQ prog [.tmp 0] n0 K)) := by
 have hJ := J2.closed prog W0 Post
 rw [s3_1, r48]
 refine cnd_false.2 (good8 hJ fun H1 S1 => good7 hJ (fun h => absurd y_rns.1 h) fun _ H2 v2 S2 s2 => ext0 (ext1 ?_))
 rw [y_rns.2.1] at s2
 refine fill3 ?_
 refine good7 (s := seas2) hJ (fun h => absurd y_rns.2.2.1 h) fun _ H3 v3 S3 s3 => ext0 (ext1 ?_)
 rw [y_rns.2.2.2] at s3
 refine okE (okE ⟨⟨by decide, by decide, rfl⟩, ?_⟩)
 refine fillO (l := [strV [100, 100, 119]]) rfl rfl rfl (by decide) (fillO (l := [strV [100, 119, 100]]) rfl rfl rfl (by decide) (fillO (l := [strV [100, 119, 119]]) rfl rfl rfl (by decide) (fillO (l := [strV [119, 100, 100]]) rfl rfl rfl (by decide) (fillO (l := [strV [119, 100, 119]]) rfl rfl rfl (by decide) (fillO (l := [strV [119, 119, 100]]) rfl rfl rfl (by decide) (fillI (qNew fun H4 p4 e4 S4 c4 l4 => ?_)))))))
 refine good9 hJ (L := wdsA) ((S3.trans S4).sli s2 (by simp)) (sliS (l := wdsA) c4 rfl) (by decide) (okN ⟨⟨by decide, by decide, rfl⟩, ?_⟩)
 refine fillO (l := [strV [100, 119]]) rfl rfl rfl (by decide) (fillO (l := [strV [119, 100]]) rfl rfl rfl (by decide) (fillO (l := [strV [119, 119]]) rfl rfl rfl (by decide) (fillI (qNew fun H5 p5 e5 S5 c5 l5 => ?_))))
 refine good9 hJ (L := wdsB) ((S4.trans S5).sli s3 (by simp)) (sliS (l := wdsB) c5 rfl) (by decide) (notI (hold.2 ?_))
 exact gk2 (Eq.trans (b := F.ds) (by kernel_rfl) ds) (by kernel_rfl) hK
end
section
variable {W0 : World} {Post : Value → World → Prop} {h : List AObj} {K : Value → List AObj → Prop}
theorem walk3 (hK : ∀ H, K (.bool true) H) : W prog (J2 prog W0 Post) 359 h.length 3 (codeOf f3) (RG.mk (regs []) []) h (RetQ prog [.tmp 0] h.length K) := by
 have hJ := J2.closed prog W0 Post
 rw [e3]
 refine good4 hJ fun H1 S1 => good4 hJ fun H2 S2 => qAl fun H3 p3 e3 S3 c3 l3 => qAl fun H4 p4 e4 S4 c4 l4 => ?_
 refine qStA (c := mead.cells) (S4.get c3 (by simp)) rfl rfl rfl fun H5 S5 c5 l5 => qStA (c := mead.cells) (S5.get c4 (by simp; omega)) rfl rfl rfl fun H6 S6 c6 l6 => ?_
 refine offI (qSt (v := vint 21) (S6.get c5 (by simp; omega)) (by decide) rfl rfl fun H7 S7 c7 l7 => ?_)
 refine offI (qSt (v := vint 0) (S7.get c6 (by simp; omega)) (by decide) rfl rfl fun H8 S8 c8 l8 => ?_)
 have k7 : H8[p3]? = some (.cells full.cells true 0) := S8.get c7 (by simp; omega)
 have k8 : H8[p4]? = some (.cells poor.cells true 0) := c8
 refine good5 fun H9 S9 => okN ?_
 have m7 := S9.get (unchC k7) (by simp)
 have m8 := S9.get (unchC k8) (by simp)
 refine good4 hJ fun H10 S10 => good6 hJ ?_
 rw [y_chk.1]
 refine okE (load_part (c := full.cells) (S10.get m7 (by simp)) (by simp [Pas.cells]) rfl rfl (good6 hJ ?_))
 rw [y_chk.2.1]
 refine okE (load_part (c := poor.cells) (S10.get m8 (by simp)) (by simp [Pas.cells]) rfl rfl (good6 hJ ?_))
 rw [y_chk.2.2]
 exact neqI (hold.2 (gk1 (by kernel_rfl) (by kernel_rfl) hK))
end
end Go.Proofs.YthnccaajpdnndaaDoor
namespace Go.Proofs.YthnccaajpdnndaaDoor
open Go.Conc Go.ChangeShapes Go.WideShapes Go.ChangeAt Go.RowKit Go.Proofs.Tryd
set_option maxRecDepth 100000
def cellsD : DataW Unit → Array Value
 | .agg ds => ⟨ds.map fun | .lit (.int k n) => Value.int k n | _ => .int .i64 0⟩
 | _ => #[]
def laySet (d : DataW Unit) : Obj → Obj
 | .cells _ t frozen => .cells (cellsD d) t frozen
 | o => o
noncomputable def laidWorld (os : Os) : World :=
 let w0 := World.holding prog os ⟨#[], #[], []⟩
 { w0 with heap := ((w0.heap.modify 0 (laySet Rows.laid_internal_strconv_uint64pow10)).modify 1 (laySet Rows.laid_math_bits_deBruijn32tab)).modify 2 (laySet Rows.laid_math_bits_deBruijn64tab) }
theorem laidWorld_met (os : Os) : laidMetH prog Rows.grassKnownRow.laid ((laidWorld os).forCall (fun _ _ => 0) ⟨#[], #[], []⟩).memory :=
 (laidMet_of_run3 8 (by kernel_rfl) (by kernel_rfl) (by kernel_rfl) : laidMet prog Rows.grassKnownRow.laid _)
theorem lifted3 (os : Os) (started : os.Started) (H : Type) (enc : TypeId × Value → H) :
  ReturnsInLeavingWide {} checked os 3 .any (fun w args => (Rows.grassKnownSpec.pre enc prog f3 Rows.grassKnownRow.domain false w args ∧ laidMetH prog Rows.grassKnownRow.laid w) ∧ sizedMet enc prog f3 (OpenSpec.ofChange Rows.grassKnownSpec) false w args) (Rows.grassKnownSpec.post enc prog f3 false true false false) := by
 refine returnsInLeavingWide_of_good (C := checked) own started
  (ChangeSpec.witness_at (enc := enc) (C := checked) (os := os) (X := fun w _ => laidMetH prog Rows.grassKnownRow.laid w) false (laidWorld os) #[] 8 rfl (by kernel_rfl) (by kernel_rfl) (by kernel_rfl) (by kernel_rfl) (by kernel_rfl) (laidWorld_met os)) ?_
 intro w tape i _ _ _ _ hpre _
 obtain ⟨⟨⟨ds, gs, before, hw, _⟩, _⟩, _⟩ := hpre
 have hW := DataW.Whole.of_heap (w' := w.forCall tape i) (by rfl) hw
 generalize w.forCall tape i = W at hW
 generalize i.args = args at hW
 have hW' := hW
 obtain ⟨p, q, hA0, hV, rfl, _, _⟩ := hW
 have hA : DataW.TrodAll enc prog W 0 (fun _ => true) true f3.params.toList args.toList ds p := hA0
 have hps : f3.params = #[] := by kernel_rfl
 rw [hps] at hA
 obtain ⟨args⟩ := args
 obtain ⟨hvn, hdn, hpn⟩ := trodAll_nil hA
 have hvn : args = [] := hvn
 subst hvn hdn hpn
 obtain ⟨rfl, rfl⟩ := trodVars_none hV
 have u4 : prog.underlying 4 = some .bool := by kernel_rfl
 obtain ⟨M, last, o, w', t', r1, r2, r3, r4⟩ := law_run2 (g := 3) (fn := f3) at3 body3 (by kernel_rfl) W [] (Nat.zero_le _) (fun v hv => absurd hv (by simp))
  (fun Post => walk3 (K := fun v _ => v = .bool true) fun _ => rfl)
 refine ⟨M, last, o, w', t', r1, r2, r3, r4.mono fun v hF => ?_⟩
 obtain ⟨rfl, hbelow⟩ := hF
 refine ChangeSpec.post_blind ?_
 refine ⟨_, _, _, [], _, [], hW', ?_, by rfl, by rfl, hbelow.frame _, fun h => by cases h⟩
 exact trodAll_mk1 (shut_bool u4 true)
theorem grassKnown_row : Rows.GrassKnownSaid :=
 OpenClaim.holds_of_wide_leaving 3 f3 rfl rfl rfl rfl rfl rfl rfl ⟨rfl, rfl, rfl, rfl, rfl⟩ rfl rfl rfl rfl rfl (by kernel_rfl) at3 (by kernel_rfl)
  (of_decide_eq_true (by kernel_rfl)) (by unfold Func.isWrapper; first | (rw [if_pos (by decide +kernel)]; kernel_rfl) | (rw [if_neg (by decide +kernel)]; exact ⟨rfl, rfl⟩))
  (fun os started H enc _ => lifted3 os started H enc)
#print axioms grassKnown_row
end Go.Proofs.YthnccaajpdnndaaDoor
namespace Go.Proofs.YthnccaajpdnndaaDoor
open Go
set_option maxRecDepth 100000
theorem tied_goes {p : Pinned} {s : OpenSpec} {c : OpenClaim} (Lk : Looks) (kinds : List LaidKind) (tests : Bool) (har : Bool × String) (lk : Bool)
  (hc : c.holds p s) (hw : c.wfByText s = true) (htie : c.laidByTextAt Lk p kinds tests)
  (hst : c.start = .entering) (hnb : c.noBlocks = false ∧ c.again = false) (hm : p.checked.prog.mainIs = some (har.1, har.2.toList)) (hn : (!har.1 && har.2.isEmpty && !lk) = false)
  (hl : ∀ f fn, p.checked.prog.funcNamed c.func = some f → p.checked.prog.funcs[f]? = some fn → lk = p.checked.prog.looks [] ∧ ∀ (j : Nat) t, fn.params[j]? = some t → p.checked.prog.wantsStandIn t = false)
  (hg : true = c.goesBy p.checked.prog) :
  Claim7.holds p (.plain s) { stood := { row := c, standIns := [], harness := har, looks := lk }, kinds := [], alts := [], goes := true, laidByText := true, laidKinds := kinds, laidTests := tests, laidLooks := Lk } := by
 have h6 : Claim7.isSixth { stood := { row := c, standIns := [], harness := har, looks := lk }, kinds := [] } = false := by simpa [Claim7.isSixth] using hn
 exact ⟨Claim7.tied_new_at Lk kinds tests (Claim7.new_of_sixth hc har lk hst hnb hm h6 hl) hw, (fun D hD => by cases hD), htie, (fun h => by cases h), hg⟩
theorem grassKnown_holds : Rows.GrassKnownCardSaid :=
 tied_goes .later [.data, .data, .data] true (true, "fa9d002bc0de62087845359b142af9146b4e90de53c0829c57153ab81412ec82") false
  grassKnown_row (by kernel_rfl) grassKnown_row_tie rfl ⟨rfl, rfl⟩ (by kernel_rfl) rfl
  (fun f fn hf hfn => by
   have e : Tryd.prog.funcNamed "mesta/mestalaw01.GrassKnown" = some 3 := by kernel_rfl
   obtain rfl : f = 3 := (Option.some.inj (e.symm.trans hf)).symm
   obtain rfl : fn = Tryd.f3 := (Option.some.inj (at3.symm.trans hfn)).symm
   exact ⟨by kernel_rfl, fun j t ht => by
    have e0 : Tryd.f3.params = #[] := by kernel_rfl
    rw [e0] at ht
    simp at ht⟩)
  (by kernel_rfl)
#print axioms grassKnown_holds
end Go.Proofs.YthnccaajpdnndaaDoor
