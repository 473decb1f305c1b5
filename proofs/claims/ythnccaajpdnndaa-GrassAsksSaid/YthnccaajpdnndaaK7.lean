/- GrassAsks answers true at every input, and its arguments read behind the call as they read before. No conditions. -/
import Derived.Test.YthnccaajpdnndaaK2
import Derived.Test.YthnccaajpdnndaaK3
import Derived.Test.YthnccaajpdnndaaK5
import Derived.Test.YthnccaajpdnndaaK6
import Derived.Deep.Slices
namespace Go.Proofs.Ythnccaajpdnndaa
open Go.Conc Go.Proofs.Try
set_option maxRecDepth 100000
set_option maxHeartbeats 4000000
set_option linter.unusedVariables false
section
variable {main : Bool} {J : JT} {n0 : Nat} {h : List AObj} {K : Value → List AObj → Prop}
theorem at11 : prog.funcs[11]? = some f11 := by kernel_rfl
theorem body11 : f11.body = some (codeOf f11) := by kernel_rfl
def pl11 : Plans := [(5, false, .take 0 (.take 1 (.take 2 (.take 4 (.take 5 (.take 6 (.take 7 (.take 9 (.take 11 (.take 12 (.take 13 (.alt 3 true (.alt 8 true (.take 15 (.alt 10 true (.take 16 (.last 14 true (.take 17 (.fin)))) (.last 14 true (.last 10 true (.take 16 (.take 17 (.fin))))))) (.last 14 true (.last 8 true (.take 15 (.last 10 true (.take 16 (.take 17 (.fin)))))))) (.alt 8 true (.alt 3 true (.take 15 (.alt 10 true (.take 16 (.last 14 true (.take 17 (.fin)))) (.last 14 true (.last 10 true (.take 16 (.take 17 (.fin))))))) (.alt 10 true (.alt 3 true (.take 15 (.take 16 (.last 14 true (.take 17 (.fin))))) (.last 14 true (.last 3 true (.take 15 (.take 16 (.take 17 (.fin))))))) (.last 14 true (.alt 3 true (.take 15 (.last 10 true (.take 16 (.take 17 (.fin))))) (.last 10 true (.last 3 true (.take 15 (.take 16 (.take 17 (.fin)))))))))) (.last 14 true (.alt 3 true (.last 8 true (.take 15 (.last 10 true (.take 16 (.take 17 (.fin)))))) (.last 8 true (.alt 3 true (.take 15 (.last 10 true (.take 16 (.take 17 (.fin))))) (.last 10 true (.last 3 true (.take 15 (.take 16 (.take 17 (.fin))))))))))))))))))))))),
 (10, true, .take 0 (.take 1 (.take 2 (.take 3 (.take 4 (.take 5 (.take 6 (.take 7 (.take 8 (.last 9 false (.take 10 (.take 11 (.take 12 (.take 13 (.take 14 (.fin)))))))))))))))),
 (11, true, .take 0 (.take 1 (.take 2 (.take 3 (.take 4 (.take 5 (.take 6 (.take 7 (.take 8 (.take 9 (.take 10 (.take 11 (.last 12 false (.take 13 (.take 14 (.take 15 (.take 16 (.take 17 (.fin))))))))))))))))))),
 (12, true, .take 0 (.take 1 (.take 2 (.take 3 (.take 4 (.take 5 (.take 6 (.take 7 (.take 8 (.last 9 false (.take 10 (.take 11 (.take 12 (.take 13 (.take 14 (.fin)))))))))))))))),
 (13, true, .take 0 (.take 1 (.take 2 (.take 3 (.take 4 (.take 5 (.take 6 (.take 7 (.take 8 (.take 9 (.take 10 (.take 11 (.last 12 false (.take 13 (.take 14 (.take 15 (.take 16 (.take 17 (.fin))))))))))))))))))),
 (14, true, .take 0 (.take 1 (.take 2 (.take 3 (.take 4 (.take 5 (.take 6 (.take 7 (.take 8 (.last 9 false (.take 10 (.take 11 (.take 12 (.take 13 (.take 14 (.take 15 (.take 16 (.fin)))))))))))))))))),
 (15, true, .take 0 (.take 1 (.take 2 (.take 3 (.take 4 (.take 5 (.take 6 (.take 7 (.take 8 (.take 9 (.take 10 (.take 11 (.last 12 false (.take 13 (.take 14 (.take 15 (.take 16 (.take 17 (.take 18 (.take 19 (.fin)))))))))))))))))))))]
def ct11 : Cuts := .bin (.go) (.bin (.go) (.bin (.go) (.bin (.go) (.cut (.bin (.go) (.cut (.bin (.bin (.go) (.un (.un (.bin (.go) (.bin (.un (.bin (.go) (.bin (.go) (.cut (.bin (.go) (.bin (.go) (.cut (.bin (.go) (.bin (.go) (.bin (.go) (.cut (.bin (.go) (.cut (.go)))))))))))))) (.go)))))) (.go))))))))
theorem pok11 : plansOk prog pl11 (codeOf f11) = true := by kernel_rfl
theorem e11 {a0 a1 a2 a3 : Value} : W prog J 200 h.length 11 (codeOf f11) (RG.mk (regs [a0, a1, a2, a3]) []) h (RetQ prog [.tmp 8] h.length K) =
(aBox a0 h fun v1 h2 =>
aBox a2 h2 fun v3 h4 =>
aLenS a1 fun v5 =>
aBin prog .gtr 3 v5 (vint 20) fun v6 =>
cnd v6
(Good prog J 21 [] h4 fun v7 h8 =>
retL h.length K [] [v7] h8)
(Good prog J 22 [a3] h4 fun v9 h10 =>
Good prog J 24 [v9] h10 fun v11 h12 =>
Good prog J 25 [v9, (vint 7)] h12 fun v13 h14 =>
aAlloc [(vint 0), (vint 0), (vint 0), (vint 0), (vint 0), (vint 0)] h14 fun v15 h16 =>
aAlloc [(vint 0), (vint 0), (vint 0)] h16 fun v17 h18 =>
aStore 6 v15 v11 h18 fun h19 =>
aStore 3 v17 v13 h19 fun h20 =>
Hold (W prog J 200 h.length 11 (subC [1, 1, 1, 1] (codeOf f11)) (RG.p (RG.p (RG.p (RG.p (RG.p (RG.p (RG.p (RG.p (RG.p (RG.p (RG.p (RG.p (RG.p (RG.p (RG.p (RG.mk (regs [a0, a1, a2, a3]) []) 4 v1) 6 v3) 8 (Value.bool false)) 31 a1) 32 v5) 33 v6) 35 a3) 36 v9) 9 v9) 37 v9) 38 v11) 39 v9) 40 v13) 10 v15) 11 v17) h20 (contX pl11 prog J 200 h.length 11 ct11 [1, 1, 1, 1] (codeOf f11) [] (RetQ prog [.tmp 8] h.length K))))) := top_eq pok11 ct11 (by kernel_rfl)
theorem s11_1 {f : RG} : W prog J 200 n0 11 (subC [1, 1, 1, 1] (codeOf f11)) f h (contX pl11 prog J 200 n0 11 ct11 [1, 1, 1, 1] (codeOf f11) [] (RetQ prog [.tmp 8] n0 K)) =
((∃ B, aLoad true 6 (f.r 4) h fun v1 =>
RdOk (some B) (ptrBlk (f.r 4)) ∧ (aLoad true 6 (f.r 10) h fun v2 =>
RdOk (some B) (ptrBlk (f.r 10)) ∧ (aLoad true 6 (f.r 10) h fun v3 =>
RdOk (some B) (ptrBlk (f.r 10)) ∧ (aOff (f.r 11) 0 fun v4 =>
aLoad false 1 v4 h fun v5 =>
RdOk (some B) (ptrBlk v4) ∧ (aLoad true 3 (f.r 6) h fun v6 =>
RdOk (some B) (ptrBlk (f.r 6)) ∧ (aLoad true 3 (f.r 11) h fun v7 =>
RdOk (some B) (ptrBlk (f.r 11)) ∧ (aLoad true 3 (f.r 11) h fun v8 =>
RdOk (some B) (ptrBlk (f.r 11)) ∧ (((((3 * 6 : Nat) ≤ 16777216 ∧ (3 : Nat) ≤ 16777216 ∧ List.length [(vint 0), (vint 0), (vint 0), (vint 0), (vint 0), (vint 0)] = 6) ∧ aFill (zrep [(vint 0), (vint 0), (vint 0), (vint 0), (vint 0), (vint 0)] 3) [(0, 6, v1), (6, 6, v2), (12, 6, v3)] fun c9 =>
aNewS 3 c9 h fun v10 h11 =>
SameB (some B) h h11 ∧ ((Good prog J 30 [(f.r 9), v5, (vint 9)] h11 fun v12 h13 =>
SameB (some B) h h13 ∧ (((((3 * 1 : Nat) ≤ 16777216 ∧ (3 : Nat) ≤ 16777216 ∧ List.length [(Value.slice none 0 0)] = 1) ∧ aFill (zrep [(Value.slice none 0 0)] 3) [(0, 1, (f.r 1)), (1, 1, v12), (2, 1, (f.r 1))] fun c14 =>
aNewS 3 c14 h13 fun v15 h16 =>
SameB (some B) h h16 ∧ ((((3 * 3 : Nat) ≤ 16777216 ∧ (3 : Nat) ≤ 16777216 ∧ List.length [(vint 0), (vint 0), (vint 0)] = 3) ∧ aFill (zrep [(vint 0), (vint 0), (vint 0)] 3) [(0, 3, v6), (3, 3, v7), (6, 3, v8)] fun c17 =>
aNewS 3 c17 h16 fun v18 h19 =>
SameB (some B) h h19 ∧ (Hold (W prog J 200 n0 11 (subC [1, 1, 1, 1, 1] (codeOf f11)) (RG.p (RG.p (RG.p (RG.p (RG.p (RG.p (RG.p (RG.p (RG.p (RG.p (RG.p (RG.p (RG.p (RG.p (RG.p (RG.p (RG.p (RG.p f 41 v1) 42 v2) 43 v3) 45 (f.r 1)) 46 (f.r 9)) 47 v4) 48 v5) 50 (f.r 1)) 52 v6) 53 v7) 54 v8) 44 v10) 49 v12) 12 v10) 51 v15) 13 v15) 55 v18) 14 v18) h19 (contX pl11 prog J 200 n0 11 ct11 [1, 1, 1, 1, 1] (codeOf f11) [] (RetQ prog [.tmp 8] n0 K)))))))) ∧ ((((3 * 3 : Nat) ≤ 16777216 ∧ (3 : Nat) ≤ 16777216 ∧ List.length [(vint 0), (vint 0), (vint 0)] = 3) ∧ aFill (zrep [(vint 0), (vint 0), (vint 0)] 3) [(0, 3, v6), (3, 3, v7), (6, 3, v8)] fun c20 =>
aNewS 3 c20 h13 fun v21 h22 =>
SameB (some B) h h22 ∧ ((((3 * 1 : Nat) ≤ 16777216 ∧ (3 : Nat) ≤ 16777216 ∧ List.length [(Value.slice none 0 0)] = 1) ∧ aFill (zrep [(Value.slice none 0 0)] 3) [(0, 1, (f.r 1)), (1, 1, v12), (2, 1, (f.r 1))] fun c23 =>
aNewS 3 c23 h22 fun v24 h25 =>
SameB (some B) h h25 ∧ (Hold (W prog J 200 n0 11 (subC [1, 1, 1, 1, 1] (codeOf f11)) (RG.p (RG.p (RG.p (RG.p (RG.p (RG.p (RG.p (RG.p (RG.p (RG.p (RG.p (RG.p (RG.p (RG.p (RG.p (RG.p (RG.p (RG.p f 41 v1) 42 v2) 43 v3) 45 (f.r 1)) 46 (f.r 9)) 47 v4) 48 v5) 50 (f.r 1)) 52 v6) 53 v7) 54 v8) 44 v10) 49 v12) 12 v10) 55 v21) 51 v24) 13 v24) 14 v21) h25 (contX pl11 prog J 200 n0 11 ct11 [1, 1, 1, 1, 1] (codeOf f11) [] (RetQ prog [.tmp 8] n0 K)))))))))) ∧ ((((3 * 3 : Nat) ≤ 16777216 ∧ (3 : Nat) ≤ 16777216 ∧ List.length [(vint 0), (vint 0), (vint 0)] = 3) ∧ aFill (zrep [(vint 0), (vint 0), (vint 0)] 3) [(0, 3, v6), (3, 3, v7), (6, 3, v8)] fun c26 =>
aNewS 3 c26 h11 fun v27 h28 =>
SameB (some B) h h28 ∧ (Good prog J 30 [(f.r 9), v5, (vint 9)] h28 fun v29 h30 =>
SameB (some B) h h30 ∧ ((((3 * 1 : Nat) ≤ 16777216 ∧ (3 : Nat) ≤ 16777216 ∧ List.length [(Value.slice none 0 0)] = 1) ∧ aFill (zrep [(Value.slice none 0 0)] 3) [(0, 1, (f.r 1)), (1, 1, v29), (2, 1, (f.r 1))] fun c31 =>
aNewS 3 c31 h30 fun v32 h33 =>
SameB (some B) h h33 ∧ (Hold (W prog J 200 n0 11 (subC [1, 1, 1, 1, 1] (codeOf f11)) (RG.p (RG.p (RG.p (RG.p (RG.p (RG.p (RG.p (RG.p (RG.p (RG.p (RG.p (RG.p (RG.p (RG.p (RG.p (RG.p (RG.p (RG.p f 41 v1) 42 v2) 43 v3) 45 (f.r 1)) 46 (f.r 9)) 47 v4) 48 v5) 50 (f.r 1)) 52 v6) 53 v7) 54 v8) 44 v10) 55 v27) 49 v29) 12 v10) 51 v32) 13 v32) 14 v27) h33 (contX pl11 prog J 200 n0 11 ct11 [1, 1, 1, 1, 1] (codeOf f11) [] (RetQ prog [.tmp 8] n0 K)))))))))))) ∧ (Good prog J 30 [(f.r 9), v5, (vint 9)] h fun v34 h35 =>
SameB (some B) h h35 ∧ (((((3 * 6 : Nat) ≤ 16777216 ∧ (3 : Nat) ≤ 16777216 ∧ List.length [(vint 0), (vint 0), (vint 0), (vint 0), (vint 0), (vint 0)] = 6) ∧ aFill (zrep [(vint 0), (vint 0), (vint 0), (vint 0), (vint 0), (vint 0)] 3) [(0, 6, v1), (6, 6, v2), (12, 6, v3)] fun c36 =>
aNewS 3 c36 h35 fun v37 h38 =>
SameB (some B) h h38 ∧ (((((3 * 1 : Nat) ≤ 16777216 ∧ (3 : Nat) ≤ 16777216 ∧ List.length [(Value.slice none 0 0)] = 1) ∧ aFill (zrep [(Value.slice none 0 0)] 3) [(0, 1, (f.r 1)), (1, 1, v34), (2, 1, (f.r 1))] fun c39 =>
aNewS 3 c39 h38 fun v40 h41 =>
SameB (some B) h h41 ∧ ((((3 * 3 : Nat) ≤ 16777216 ∧ (3 : Nat) ≤ 16777216 ∧ List.length [(vint 0), (vint 0), (vint 0)] = 3) ∧ aFill (zrep [(vint 0), (vint 0), (vint 0)] 3) [(0, 3, v6), (3, 3, v7), (6, 3, v8)] fun c42 =>
aNewS 3 c42 h41 fun v43 h44 =>
SameB (some B) h h44 ∧ (Hold (W prog J 200 n0 11 (subC [1, 1, 1, 1, 1] (codeOf f11)) (RG.p (RG.p (RG.p (RG.p (RG.p (RG.p (RG.p (RG.p (RG.p (RG.p (RG.p (RG.p (RG.p (RG.p (RG.p (RG.p (RG.p (RG.p f 41 v1) 42 v2) 43 v3) 45 (f.r 1)) 46 (f.r 9)) 47 v4) 48 v5) 50 (f.r 1)) 52 v6) 53 v7) 54 v8) 49 v34) 44 v37) 12 v37) 51 v40) 13 v40) 55 v43) 14 v43) h44 (contX pl11 prog J 200 n0 11 ct11 [1, 1, 1, 1, 1] (codeOf f11) [] (RetQ prog [.tmp 8] n0 K)))))))) ∧ ((((3 * 3 : Nat) ≤ 16777216 ∧ (3 : Nat) ≤ 16777216 ∧ List.length [(vint 0), (vint 0), (vint 0)] = 3) ∧ aFill (zrep [(vint 0), (vint 0), (vint 0)] 3) [(0, 3, v6), (3, 3, v7), (6, 3, v8)] fun c45 =>
aNewS 3 c45 h38 fun v46 h47 =>
SameB (some B) h h47 ∧ ((((3 * 1 : Nat) ≤ 16777216 ∧ (3 : Nat) ≤ 16777216 ∧ List.length [(Value.slice none 0 0)] = 1) ∧ aFill (zrep [(Value.slice none 0 0)] 3) [(0, 1, (f.r 1)), (1, 1, v34), (2, 1, (f.r 1))] fun c48 =>
aNewS 3 c48 h47 fun v49 h50 =>
SameB (some B) h h50 ∧ (Hold (W prog J 200 n0 11 (subC [1, 1, 1, 1, 1] (codeOf f11)) (RG.p (RG.p (RG.p (RG.p (RG.p (RG.p (RG.p (RG.p (RG.p (RG.p (RG.p (RG.p (RG.p (RG.p (RG.p (RG.p (RG.p (RG.p f 41 v1) 42 v2) 43 v3) 45 (f.r 1)) 46 (f.r 9)) 47 v4) 48 v5) 50 (f.r 1)) 52 v6) 53 v7) 54 v8) 49 v34) 44 v37) 12 v37) 55 v46) 51 v49) 13 v49) 14 v46) h50 (contX pl11 prog J 200 n0 11 ct11 [1, 1, 1, 1, 1] (codeOf f11) [] (RetQ prog [.tmp 8] n0 K))))))))))) ∧ ((((3 * 1 : Nat) ≤ 16777216 ∧ (3 : Nat) ≤ 16777216 ∧ List.length [(Value.slice none 0 0)] = 1) ∧ aFill (zrep [(Value.slice none 0 0)] 3) [(0, 1, (f.r 1)), (1, 1, v34), (2, 1, (f.r 1))] fun c51 =>
aNewS 3 c51 h35 fun v52 h53 =>
SameB (some B) h h53 ∧ (((((3 * 6 : Nat) ≤ 16777216 ∧ (3 : Nat) ≤ 16777216 ∧ List.length [(vint 0), (vint 0), (vint 0), (vint 0), (vint 0), (vint 0)] = 6) ∧ aFill (zrep [(vint 0), (vint 0), (vint 0), (vint 0), (vint 0), (vint 0)] 3) [(0, 6, v1), (6, 6, v2), (12, 6, v3)] fun c54 =>
aNewS 3 c54 h53 fun v55 h56 =>
SameB (some B) h h56 ∧ ((((3 * 3 : Nat) ≤ 16777216 ∧ (3 : Nat) ≤ 16777216 ∧ List.length [(vint 0), (vint 0), (vint 0)] = 3) ∧ aFill (zrep [(vint 0), (vint 0), (vint 0)] 3) [(0, 3, v6), (3, 3, v7), (6, 3, v8)] fun c57 =>
aNewS 3 c57 h56 fun v58 h59 =>
SameB (some B) h h59 ∧ (Hold (W prog J 200 n0 11 (subC [1, 1, 1, 1, 1] (codeOf f11)) (RG.p (RG.p (RG.p (RG.p (RG.p (RG.p (RG.p (RG.p (RG.p (RG.p (RG.p (RG.p (RG.p (RG.p (RG.p (RG.p (RG.p (RG.p f 41 v1) 42 v2) 43 v3) 45 (f.r 1)) 46 (f.r 9)) 47 v4) 48 v5) 50 (f.r 1)) 52 v6) 53 v7) 54 v8) 49 v34) 51 v52) 44 v55) 12 v55) 13 v52) 55 v58) 14 v58) h59 (contX pl11 prog J 200 n0 11 ct11 [1, 1, 1, 1, 1] (codeOf f11) [] (RetQ prog [.tmp 8] n0 K)))))))) ∧ ((((3 * 3 : Nat) ≤ 16777216 ∧ (3 : Nat) ≤ 16777216 ∧ List.length [(vint 0), (vint 0), (vint 0)] = 3) ∧ aFill (zrep [(vint 0), (vint 0), (vint 0)] 3) [(0, 3, v6), (3, 3, v7), (6, 3, v8)] fun c60 =>
aNewS 3 c60 h53 fun v61 h62 =>
SameB (some B) h h62 ∧ ((((3 * 6 : Nat) ≤ 16777216 ∧ (3 : Nat) ≤ 16777216 ∧ List.length [(vint 0), (vint 0), (vint 0), (vint 0), (vint 0), (vint 0)] = 6) ∧ aFill (zrep [(vint 0), (vint 0), (vint 0), (vint 0), (vint 0), (vint 0)] 3) [(0, 6, v1), (6, 6, v2), (12, 6, v3)] fun c63 =>
aNewS 3 c63 h62 fun v64 h65 =>
SameB (some B) h h65 ∧ (Hold (W prog J 200 n0 11 (subC [1, 1, 1, 1, 1] (codeOf f11)) (RG.p (RG.p (RG.p (RG.p (RG.p (RG.p (RG.p (RG.p (RG.p (RG.p (RG.p (RG.p (RG.p (RG.p (RG.p (RG.p (RG.p (RG.p f 41 v1) 42 v2) 43 v3) 45 (f.r 1)) 46 (f.r 9)) 47 v4) 48 v5) 50 (f.r 1)) 52 v6) 53 v7) 54 v8) 49 v34) 51 v52) 55 v61) 44 v64) 12 v64) 13 v52) 14 v61) h65 (contX pl11 prog J 200 n0 11 ct11 [1, 1, 1, 1, 1] (codeOf f11) [] (RetQ prog [.tmp 8] n0 K))))))))))) ∧ ((((3 * 3 : Nat) ≤ 16777216 ∧ (3 : Nat) ≤ 16777216 ∧ List.length [(vint 0), (vint 0), (vint 0)] = 3) ∧ aFill (zrep [(vint 0), (vint 0), (vint 0)] 3) [(0, 3, v6), (3, 3, v7), (6, 3, v8)] fun c66 =>
aNewS 3 c66 h35 fun v67 h68 =>
SameB (some B) h h68 ∧ (((((3 * 6 : Nat) ≤ 16777216 ∧ (3 : Nat) ≤ 16777216 ∧ List.length [(vint 0), (vint 0), (vint 0), (vint 0), (vint 0), (vint 0)] = 6) ∧ aFill (zrep [(vint 0), (vint 0), (vint 0), (vint 0), (vint 0), (vint 0)] 3) [(0, 6, v1), (6, 6, v2), (12, 6, v3)] fun c69 =>
aNewS 3 c69 h68 fun v70 h71 =>
SameB (some B) h h71 ∧ ((((3 * 1 : Nat) ≤ 16777216 ∧ (3 : Nat) ≤ 16777216 ∧ List.length [(Value.slice none 0 0)] = 1) ∧ aFill (zrep [(Value.slice none 0 0)] 3) [(0, 1, (f.r 1)), (1, 1, v34), (2, 1, (f.r 1))] fun c72 =>
aNewS 3 c72 h71 fun v73 h74 =>
SameB (some B) h h74 ∧ (Hold (W prog J 200 n0 11 (subC [1, 1, 1, 1, 1] (codeOf f11)) (RG.p (RG.p (RG.p (RG.p (RG.p (RG.p (RG.p (RG.p (RG.p (RG.p (RG.p (RG.p (RG.p (RG.p (RG.p (RG.p (RG.p (RG.p f 41 v1) 42 v2) 43 v3) 45 (f.r 1)) 46 (f.r 9)) 47 v4) 48 v5) 50 (f.r 1)) 52 v6) 53 v7) 54 v8) 49 v34) 55 v67) 44 v70) 12 v70) 51 v73) 13 v73) 14 v67) h74 (contX pl11 prog J 200 n0 11 ct11 [1, 1, 1, 1, 1] (codeOf f11) [] (RetQ prog [.tmp 8] n0 K)))))))) ∧ ((((3 * 1 : Nat) ≤ 16777216 ∧ (3 : Nat) ≤ 16777216 ∧ List.length [(Value.slice none 0 0)] = 1) ∧ aFill (zrep [(Value.slice none 0 0)] 3) [(0, 1, (f.r 1)), (1, 1, v34), (2, 1, (f.r 1))] fun c75 =>
aNewS 3 c75 h68 fun v76 h77 =>
SameB (some B) h h77 ∧ ((((3 * 6 : Nat) ≤ 16777216 ∧ (3 : Nat) ≤ 16777216 ∧ List.length [(vint 0), (vint 0), (vint 0), (vint 0), (vint 0), (vint 0)] = 6) ∧ aFill (zrep [(vint 0), (vint 0), (vint 0), (vint 0), (vint 0), (vint 0)] 3) [(0, 6, v1), (6, 6, v2), (12, 6, v3)] fun c78 =>
aNewS 3 c78 h77 fun v79 h80 =>
SameB (some B) h h80 ∧ (Hold (W prog J 200 n0 11 (subC [1, 1, 1, 1, 1] (codeOf f11)) (RG.p (RG.p (RG.p (RG.p (RG.p (RG.p (RG.p (RG.p (RG.p (RG.p (RG.p (RG.p (RG.p (RG.p (RG.p (RG.p (RG.p (RG.p f 41 v1) 42 v2) 43 v3) 45 (f.r 1)) 46 (f.r 9)) 47 v4) 48 v5) 50 (f.r 1)) 52 v6) 53 v7) 54 v8) 49 v34) 55 v67) 51 v76) 44 v79) 12 v79) 13 v76) 14 v67) h80 (contX pl11 prog J 200 n0 11 ct11 [1, 1, 1, 1, 1] (codeOf f11) [] (RetQ prog [.tmp 8] n0 K))))))))))))) ∧ ((((3 * 3 : Nat) ≤ 16777216 ∧ (3 : Nat) ≤ 16777216 ∧ List.length [(vint 0), (vint 0), (vint 0)] = 3) ∧ aFill (zrep [(vint 0), (vint 0), (vint 0)] 3) [(0, 3, v6), (3, 3, v7), (6, 3, v8)] fun c81 =>
aNewS 3 c81 h fun v82 h83 =>
SameB (some B) h h83 ∧ (((((3 * 6 : Nat) ≤ 16777216 ∧ (3 : Nat) ≤ 16777216 ∧ List.length [(vint 0), (vint 0), (vint 0), (vint 0), (vint 0), (vint 0)] = 6) ∧ aFill (zrep [(vint 0), (vint 0), (vint 0), (vint 0), (vint 0), (vint 0)] 3) [(0, 6, v1), (6, 6, v2), (12, 6, v3)] fun c84 =>
aNewS 3 c84 h83 fun v85 h86 =>
SameB (some B) h h86 ∧ (Good prog J 30 [(f.r 9), v5, (vint 9)] h86 fun v87 h88 =>
SameB (some B) h h88 ∧ ((((3 * 1 : Nat) ≤ 16777216 ∧ (3 : Nat) ≤ 16777216 ∧ List.length [(Value.slice none 0 0)] = 1) ∧ aFill (zrep [(Value.slice none 0 0)] 3) [(0, 1, (f.r 1)), (1, 1, v87), (2, 1, (f.r 1))] fun c89 =>
aNewS 3 c89 h88 fun v90 h91 =>
SameB (some B) h h91 ∧ (Hold (W prog J 200 n0 11 (subC [1, 1, 1, 1, 1] (codeOf f11)) (RG.p (RG.p (RG.p (RG.p (RG.p (RG.p (RG.p (RG.p (RG.p (RG.p (RG.p (RG.p (RG.p (RG.p (RG.p (RG.p (RG.p (RG.p f 41 v1) 42 v2) 43 v3) 45 (f.r 1)) 46 (f.r 9)) 47 v4) 48 v5) 50 (f.r 1)) 52 v6) 53 v7) 54 v8) 55 v82) 44 v85) 49 v87) 12 v85) 51 v90) 13 v90) 14 v82) h91 (contX pl11 prog J 200 n0 11 ct11 [1, 1, 1, 1, 1] (codeOf f11) [] (RetQ prog [.tmp 8] n0 K))))))))) ∧ (Good prog J 30 [(f.r 9), v5, (vint 9)] h83 fun v92 h93 =>
SameB (some B) h h93 ∧ (((((3 * 6 : Nat) ≤ 16777216 ∧ (3 : Nat) ≤ 16777216 ∧ List.length [(vint 0), (vint 0), (vint 0), (vint 0), (vint 0), (vint 0)] = 6) ∧ aFill (zrep [(vint 0), (vint 0), (vint 0), (vint 0), (vint 0), (vint 0)] 3) [(0, 6, v1), (6, 6, v2), (12, 6, v3)] fun c94 =>
aNewS 3 c94 h93 fun v95 h96 =>
SameB (some B) h h96 ∧ ((((3 * 1 : Nat) ≤ 16777216 ∧ (3 : Nat) ≤ 16777216 ∧ List.length [(Value.slice none 0 0)] = 1) ∧ aFill (zrep [(Value.slice none 0 0)] 3) [(0, 1, (f.r 1)), (1, 1, v92), (2, 1, (f.r 1))] fun c97 =>
aNewS 3 c97 h96 fun v98 h99 =>
SameB (some B) h h99 ∧ (Hold (W prog J 200 n0 11 (subC [1, 1, 1, 1, 1] (codeOf f11)) (RG.p (RG.p (RG.p (RG.p (RG.p (RG.p (RG.p (RG.p (RG.p (RG.p (RG.p (RG.p (RG.p (RG.p (RG.p (RG.p (RG.p (RG.p f 41 v1) 42 v2) 43 v3) 45 (f.r 1)) 46 (f.r 9)) 47 v4) 48 v5) 50 (f.r 1)) 52 v6) 53 v7) 54 v8) 55 v82) 49 v92) 44 v95) 12 v95) 51 v98) 13 v98) 14 v82) h99 (contX pl11 prog J 200 n0 11 ct11 [1, 1, 1, 1, 1] (codeOf f11) [] (RetQ prog [.tmp 8] n0 K)))))))) ∧ ((((3 * 1 : Nat) ≤ 16777216 ∧ (3 : Nat) ≤ 16777216 ∧ List.length [(Value.slice none 0 0)] = 1) ∧ aFill (zrep [(Value.slice none 0 0)] 3) [(0, 1, (f.r 1)), (1, 1, v92), (2, 1, (f.r 1))] fun c100 =>
aNewS 3 c100 h93 fun v101 h102 =>
SameB (some B) h h102 ∧ ((((3 * 6 : Nat) ≤ 16777216 ∧ (3 : Nat) ≤ 16777216 ∧ List.length [(vint 0), (vint 0), (vint 0), (vint 0), (vint 0), (vint 0)] = 6) ∧ aFill (zrep [(vint 0), (vint 0), (vint 0), (vint 0), (vint 0), (vint 0)] 3) [(0, 6, v1), (6, 6, v2), (12, 6, v3)] fun c103 =>
aNewS 3 c103 h102 fun v104 h105 =>
SameB (some B) h h105 ∧ (Hold (W prog J 200 n0 11 (subC [1, 1, 1, 1, 1] (codeOf f11)) (RG.p (RG.p (RG.p (RG.p (RG.p (RG.p (RG.p (RG.p (RG.p (RG.p (RG.p (RG.p (RG.p (RG.p (RG.p (RG.p (RG.p (RG.p f 41 v1) 42 v2) 43 v3) 45 (f.r 1)) 46 (f.r 9)) 47 v4) 48 v5) 50 (f.r 1)) 52 v6) 53 v7) 54 v8) 55 v82) 49 v92) 51 v101) 44 v104) 12 v104) 13 v101) 14 v82) h105 (contX pl11 prog J 200 n0 11 ct11 [1, 1, 1, 1, 1] (codeOf f11) [] (RetQ prog [.tmp 8] n0 K)))))))))))))))))))))) := sub_eq pok11 ct11 (by kernel_rfl)
theorem s11_2 {f : RG} : W prog J 200 n0 11 (subC [1, 1, 1, 1, 1] (codeOf f11)) f h (contX pl11 prog J 200 n0 11 ct11 [1, 1, 1, 1, 1] (codeOf f11) [] (RetQ prog [.tmp 8] n0 K)) =
(Sem J 200 n0 11 (subC [1, 1, 1, 1, 1, 0, 1, 0] (codeOf f11)) (RG.p f 15 (vint 0)) h (contX pl11 prog J 200 n0 11 ct11 [1, 1, 1, 1, 1, 0, 1, 0] (codeOf f11) [] (RetQ prog [.tmp 8] n0 K))) := sub_eq pok11 ct11 (by kernel_rfl)
theorem s11_3 {f : RG} {nx0 : RG → List AObj → Prop} : W prog J 200 n0 11 (subC [1, 1, 1, 1, 1, 0, 1, 0, 0] (codeOf f11)) f h (thenK nx0 (contX pl11 prog J 200 n0 11 ct11 [1, 1, 1, 1, 1, 0, 1, 0] (codeOf f11) [] (RetQ prog [.tmp 8] n0 K))) =
(aLenS (f.r 12) fun v1 =>
aBin prog .lss 3 (f.r 15) v1 fun v2 =>
cnd v2
(aIdx 1 (f.r 13) (f.r 15) fun v3 =>
aLoad false 1 v3 h fun v4 =>
Good prog J 47 [v4] h fun v5 h6 =>
aIdx 6 (f.r 12) (f.r 15) fun v7 =>
aLoad true 6 v7 h6 fun v8 =>
aIdx 3 (f.r 14) (f.r 15) fun v9 =>
aLoad true 3 v9 h6 fun v10 =>
Good prog J 41 [v8, v5, v10] h6 fun v11 h12 =>
aExt v11 0 fun v13 =>
aExt v11 1 fun v14 =>
Hold (W prog J 200 n0 11 (subC [1, 1, 1, 1, 1, 0, 1, 0, 0, 1, 0, 0, 1, 1] (codeOf f11)) (RG.p (RG.p (RG.p (RG.p (RG.p (RG.p (RG.p (RG.p (RG.p (RG.p (RG.p (RG.p (RG.p (RG.p (RG.p (RG.p (RG.p (RG.p (RG.p (RG.p (RG.p (RG.p (RG.p (RG.p (RG.p f 56 (f.r 15)) 57 (f.r 12)) 58 v1) 59 v2) 62 (f.r 13)) 63 (f.r 15)) 64 v3) 65 v4) 66 v5) 16 v5) 68 (f.r 12)) 69 (f.r 15)) 70 v7) 71 v8) 72 v5) 73 (f.r 14)) 74 (f.r 15)) 75 v9) 76 v10) 77 v11) 67 v11) 78 v13) 79 v14) 17 v13) 18 v14) h12 (contX pl11 prog J 200 n0 11 ct11 [1, 1, 1, 1, 1, 0, 1, 0, 0, 1, 0, 0, 1, 1] (codeOf f11) [nx0] (RetQ prog [.tmp 8] n0 K))))
(Good prog J 21 [] h fun v15 h16 =>
retL n0 K f.ds [v15] h16)) := sub_eq pok11 ct11 (by kernel_rfl)
theorem l11_3 (hJ : Closed prog main J) {S : Type} (μ : S → Nat) (I : S → RG → List AObj → Prop) (hI : ∀ s f h, I s f h → heapOk h → n0 ≤ h.length → W prog J 200 n0 11 (subC [1, 1, 1, 1, 1, 0, 1, 0, 0] (codeOf f11)) f h (thenK (Nx n0 μ I s) (contX pl11 prog J 200 n0 11 ct11 [1, 1, 1, 1, 1, 0, 1, 0] (codeOf f11) [] (RetQ prog [.tmp 8] n0 K))))
 {s : S} {f : RG} (hi : Gets n0 I s f h) : Sem J 200 n0 11 (subC [1, 1, 1, 1, 1, 0, 1, 0] (codeOf f11)) f h (contX pl11 prog J 200 n0 11 ct11 [1, 1, 1, 1, 1, 0, 1, 0] (codeOf f11) [] (RetQ prog [.tmp 8] n0 K)) :=
 loop_rule hJ mixed (b := subC [1, 1, 1, 1, 1, 0, 1, 0, 0] (codeOf f11)) (by kernel_rfl) μ I hI hi
theorem s11_4 {f : RG} {nx0 : RG → List AObj → Prop} : W prog J 200 n0 11 (subC [1, 1, 1, 1, 1, 0, 1, 0, 0, 1, 0, 0, 1, 1] (codeOf f11)) f h (contX pl11 prog J 200 n0 11 ct11 [1, 1, 1, 1, 1, 0, 1, 0, 0, 1, 0, 0, 1, 1] (codeOf f11) [nx0] (RetQ prog [.tmp 8] n0 K)) =
(aIdx 6 (f.r 12) (f.r 15) fun v1 =>
aLoad true 6 v1 h fun v2 =>
aIdx 1 (f.r 13) (f.r 15) fun v3 =>
aLoad false 1 v3 h fun v4 =>
aIdx 3 (f.r 14) (f.r 15) fun v5 =>
aLoad true 3 v5 h fun v6 =>
Good prog J 48 [v2, v4, v6] h fun v7 h8 =>
aExt v7 0 fun v9 =>
aExt v7 1 fun v10 =>
aIdx 6 (f.r 12) (f.r 15) fun v11 =>
aLoad true 6 v11 h8 fun v12 =>
aIdx 3 (f.r 14) (f.r 15) fun v13 =>
aLoad true 3 v13 h8 fun v14 =>
Good prog J 49 [v12, (f.r 16), v14] h8 fun v15 h16 =>
aExt v15 0 fun v17 =>
aExt v15 1 fun v18 =>
Hold (W prog J 200 n0 11 (subC [1, 1, 1, 1, 1, 0, 1, 0, 0, 1, 0, 0, 1, 1, 1, 1] (codeOf f11)) (RG.p (RG.p (RG.p (RG.p (RG.p (RG.p (RG.p (RG.p (RG.p (RG.p (RG.p (RG.p (RG.p (RG.p (RG.p (RG.p (RG.p (RG.p (RG.p (RG.p (RG.p (RG.p (RG.p (RG.p (RG.p (RG.p (RG.p (RG.p (RG.p (RG.p (RG.p (RG.p (RG.p f 81 (f.r 12)) 82 (f.r 15)) 83 v1) 84 v2) 85 (f.r 13)) 86 (f.r 15)) 87 v3) 88 v4) 89 (f.r 14)) 90 (f.r 15)) 91 v5) 92 v6) 93 v7) 80 v7) 94 v9) 95 v10) 19 v9) 20 v10) 97 (f.r 12)) 98 (f.r 15)) 99 v11) 100 v12) 101 (f.r 16)) 102 (f.r 14)) 103 (f.r 15)) 104 v13) 105 v14) 106 v15) 96 v15) 107 v17) 108 v18) 21 v17) 22 v18) h16 (contX pl11 prog J 200 n0 11 ct11 [1, 1, 1, 1, 1, 0, 1, 0, 0, 1, 0, 0, 1, 1, 1, 1] (codeOf f11) [nx0] (RetQ prog [.tmp 8] n0 K)))) := sub_eq pok11 ct11 (by kernel_rfl)
theorem s11_5 {f : RG} {nx0 : RG → List AObj → Prop} : W prog J 200 n0 11 (subC [1, 1, 1, 1, 1, 0, 1, 0, 0, 1, 0, 0, 1, 1, 1, 1] (codeOf f11)) f h (contX pl11 prog J 200 n0 11 ct11 [1, 1, 1, 1, 1, 0, 1, 0, 0, 1, 0, 0, 1, 1, 1, 1] (codeOf f11) [nx0] (RetQ prog [.tmp 8] n0 K)) =
(aIdx 6 (f.r 12) (f.r 15) fun v1 =>
aLoad true 6 v1 h fun v2 =>
aIdx 1 (f.r 13) (f.r 15) fun v3 =>
aLoad false 1 v3 h fun v4 =>
aIdx 3 (f.r 14) (f.r 15) fun v5 =>
aLoad true 3 v5 h fun v6 =>
Good prog J 50 [v2, v4, v6] h fun v7 h8 =>
aExt v7 0 fun v9 =>
aExt v7 1 fun v10 =>
aIdx 6 (f.r 12) (f.r 15) fun v11 =>
aLoad true 6 v11 h8 fun v12 =>
aIdx 3 (f.r 14) (f.r 15) fun v13 =>
aLoad true 3 v13 h8 fun v14 =>
Good prog J 51 [v12, (f.r 16), v14] h8 fun v15 h16 =>
aExt v15 0 fun v17 =>
aExt v15 1 fun v18 =>
aExt v15 2 fun v19 =>
aIdx 6 (f.r 12) (f.r 15) fun v20 =>
aLoad true 6 v20 h16 fun v21 =>
aIdx 1 (f.r 13) (f.r 15) fun v22 =>
aLoad false 1 v22 h16 fun v23 =>
aIdx 3 (f.r 14) (f.r 15) fun v24 =>
aLoad true 3 v24 h16 fun v25 =>
Good prog J 52 [v21, v23, v25] h16 fun v26 h27 =>
aExt v26 0 fun v28 =>
aExt v26 1 fun v29 =>
aExt v26 2 fun v30 =>
Hold (W prog J 200 n0 11 (subC [1, 1, 1, 1, 1, 0, 1, 0, 0, 1, 0, 0, 1, 1, 1, 1, 1, 1, 1] (codeOf f11)) (RG.p (RG.p (RG.p (RG.p (RG.p (RG.p (RG.p (RG.p (RG.p (RG.p (RG.p (RG.p (RG.p (RG.p (RG.p (RG.p (RG.p (RG.p (RG.p (RG.p (RG.p (RG.p (RG.p (RG.p (RG.p (RG.p (RG.p (RG.p (RG.p (RG.p (RG.p (RG.p (RG.p (RG.p (RG.p (RG.p (RG.p (RG.p (RG.p (RG.p (RG.p (RG.p (RG.p (RG.p (RG.p (RG.p (RG.p (RG.p (RG.p (RG.p (RG.p (RG.p (RG.p (RG.p (RG.p f 110 (f.r 12)) 111 (f.r 15)) 112 v1) 113 v2) 114 (f.r 13)) 115 (f.r 15)) 116 v3) 117 v4) 118 (f.r 14)) 119 (f.r 15)) 120 v5) 121 v6) 122 v7) 109 v7) 123 v9) 124 v10) 23 v9) 24 v10) 126 (f.r 12)) 127 (f.r 15)) 128 v11) 129 v12) 130 (f.r 16)) 131 (f.r 14)) 132 (f.r 15)) 133 v13) 134 v14) 135 v15) 125 v15) 136 v17) 137 v18) 138 v19) 25 v17) 26 v18) 27 v19) 140 (f.r 12)) 141 (f.r 15)) 142 v20) 143 v21) 144 (f.r 13)) 145 (f.r 15)) 146 v22) 147 v23) 148 (f.r 14)) 149 (f.r 15)) 150 v24) 151 v25) 152 v26) 139 v26) 153 v28) 154 v29) 155 v30) 28 v28) 29 v29) 30 v30) h27 (contX pl11 prog J 200 n0 11 ct11 [1, 1, 1, 1, 1, 0, 1, 0, 0, 1, 0, 0, 1, 1, 1, 1, 1, 1, 1] (codeOf f11) [nx0] (RetQ prog [.tmp 8] n0 K)))) := sub_eq pok11 ct11 (by kernel_rfl)
theorem s11_6 {f : RG} {nx0 : RG → List AObj → Prop} : W prog J 200 n0 11 (subC [1, 1, 1, 1, 1, 0, 1, 0, 0, 1, 0, 0, 1, 1, 1, 1, 1, 1, 1] (codeOf f11)) f h (contX pl11 prog J 200 n0 11 ct11 [1, 1, 1, 1, 1, 0, 1, 0, 0, 1, 0, 0, 1, 1, 1, 1, 1, 1, 1] (codeOf f11) [nx0] (RetQ prog [.tmp 8] n0 K)) =
(aBin prog .neq 37 (f.r 18) (f.r 20) fun v1 =>
cnd v1
(Hold (W prog J 200 n0 11 (subC [1, 1, 1, 1, 1, 0, 1, 0, 0, 1, 0, 0, 1, 1, 1, 1, 1, 1, 1, 1] (codeOf f11)) (RG.p (RG.p (RG.p (RG.p (RG.p (RG.p (RG.p (RG.p (RG.p (RG.p (RG.p (RG.p (RG.p (RG.p (RG.p (RG.p (RG.p (RG.p (RG.p (RG.p (RG.p (RG.p (RG.p (RG.p (RG.p (RG.p (RG.p (RG.p (RG.p (RG.p (RG.p (RG.p (RG.p (RG.p (RG.p (RG.p (RG.p (RG.p (RG.p (RG.p (RG.p (RG.p (RG.p (RG.p (RG.p (RG.p (RG.p (RG.p (RG.p (RG.p f 156 (f.r 18)) 157 (f.r 20)) 158 v1) 159 v1) 159 (Value.bool true)) 160 undef) 161 undef) 162 undef) 163 (Value.bool true)) 164 (Value.bool true)) 164 (Value.bool true)) 165 undef) 166 undef) 167 undef) 168 (Value.bool true)) 169 (Value.bool true)) 169 (Value.bool true)) 170 undef) 171 undef) 172 undef) 173 (Value.bool true)) 174 (Value.bool true)) 174 (Value.bool true)) 175 undef) 176 undef) 177 undef) 178 (Value.bool true)) 179 (Value.bool true)) 179 (Value.bool true)) 180 undef) 181 undef) 182 undef) 183 (Value.bool true)) 184 (Value.bool true)) 184 (Value.bool true)) 185 undef) 186 undef) 187 undef) 188 undef) 189 (Value.bool true)) 190 (Value.bool true)) 190 (Value.bool true)) 191 undef) 192 undef) 193 undef) 194 undef) 195 undef) 196 undef) 197 undef) 198 (Value.bool true)) h (contX pl11 prog J 200 n0 11 ct11 [1, 1, 1, 1, 1, 0, 1, 0, 0, 1, 0, 0, 1, 1, 1, 1, 1, 1, 1, 1] (codeOf f11) [nx0] (RetQ prog [.tmp 8] n0 K))))
(aBin prog .neq 37 (f.r 22) (f.r 24) fun v2 =>
cnd v2
(Hold (W prog J 200 n0 11 (subC [1, 1, 1, 1, 1, 0, 1, 0, 0, 1, 0, 0, 1, 1, 1, 1, 1, 1, 1, 1] (codeOf f11)) (RG.p (RG.p (RG.p (RG.p (RG.p (RG.p (RG.p (RG.p (RG.p (RG.p (RG.p (RG.p (RG.p (RG.p (RG.p (RG.p (RG.p (RG.p (RG.p (RG.p (RG.p (RG.p (RG.p (RG.p (RG.p (RG.p (RG.p (RG.p (RG.p (RG.p (RG.p (RG.p (RG.p (RG.p (RG.p (RG.p (RG.p (RG.p (RG.p (RG.p (RG.p (RG.p (RG.p (RG.p (RG.p (RG.p (RG.p (RG.p (RG.p (RG.p f 156 (f.r 18)) 157 (f.r 20)) 158 v1) 159 v1) 159 (Value.bool false)) 160 (f.r 22)) 161 (f.r 24)) 162 v2) 163 v2) 164 v2) 164 (Value.bool true)) 165 undef) 166 undef) 167 undef) 168 (Value.bool true)) 169 (Value.bool true)) 169 (Value.bool true)) 170 undef) 171 undef) 172 undef) 173 (Value.bool true)) 174 (Value.bool true)) 174 (Value.bool true)) 175 undef) 176 undef) 177 undef) 178 (Value.bool true)) 179 (Value.bool true)) 179 (Value.bool true)) 180 undef) 181 undef) 182 undef) 183 (Value.bool true)) 184 (Value.bool true)) 184 (Value.bool true)) 185 undef) 186 undef) 187 undef) 188 undef) 189 (Value.bool true)) 190 (Value.bool true)) 190 (Value.bool true)) 191 undef) 192 undef) 193 undef) 194 undef) 195 undef) 196 undef) 197 undef) 198 (Value.bool true)) h (contX pl11 prog J 200 n0 11 ct11 [1, 1, 1, 1, 1, 0, 1, 0, 0, 1, 0, 0, 1, 1, 1, 1, 1, 1, 1, 1] (codeOf f11) [nx0] (RetQ prog [.tmp 8] n0 K))))
(aBin prog .neq 3 (f.r 21) (f.r 23) fun v3 =>
cnd v3
(Hold (W prog J 200 n0 11 (subC [1, 1, 1, 1, 1, 0, 1, 0, 0, 1, 0, 0, 1, 1, 1, 1, 1, 1, 1, 1] (codeOf f11)) (RG.p (RG.p (RG.p (RG.p (RG.p (RG.p (RG.p (RG.p (RG.p (RG.p (RG.p (RG.p (RG.p (RG.p (RG.p (RG.p (RG.p (RG.p (RG.p (RG.p (RG.p (RG.p (RG.p (RG.p (RG.p (RG.p (RG.p (RG.p (RG.p (RG.p (RG.p (RG.p (RG.p (RG.p (RG.p (RG.p (RG.p (RG.p (RG.p (RG.p (RG.p (RG.p (RG.p (RG.p (RG.p (RG.p (RG.p (RG.p (RG.p (RG.p f 156 (f.r 18)) 157 (f.r 20)) 158 v1) 159 v1) 159 (Value.bool false)) 160 (f.r 22)) 161 (f.r 24)) 162 v2) 163 v2) 164 v2) 164 (Value.bool false)) 165 (f.r 21)) 166 (f.r 23)) 167 v3) 168 v3) 169 v3) 169 (Value.bool true)) 170 undef) 171 undef) 172 undef) 173 (Value.bool true)) 174 (Value.bool true)) 174 (Value.bool true)) 175 undef) 176 undef) 177 undef) 178 (Value.bool true)) 179 (Value.bool true)) 179 (Value.bool true)) 180 undef) 181 undef) 182 undef) 183 (Value.bool true)) 184 (Value.bool true)) 184 (Value.bool true)) 185 undef) 186 undef) 187 undef) 188 undef) 189 (Value.bool true)) 190 (Value.bool true)) 190 (Value.bool true)) 191 undef) 192 undef) 193 undef) 194 undef) 195 undef) 196 undef) 197 undef) 198 (Value.bool true)) h (contX pl11 prog J 200 n0 11 ct11 [1, 1, 1, 1, 1, 0, 1, 0, 0, 1, 0, 0, 1, 1, 1, 1, 1, 1, 1, 1] (codeOf f11) [nx0] (RetQ prog [.tmp 8] n0 K))))
(aBin prog .neq 9 (f.r 25) (f.r 28) fun v4 =>
cnd v4
(Hold (W prog J 200 n0 11 (subC [1, 1, 1, 1, 1, 0, 1, 0, 0, 1, 0, 0, 1, 1, 1, 1, 1, 1, 1, 1] (codeOf f11)) (RG.p (RG.p (RG.p (RG.p (RG.p (RG.p (RG.p (RG.p (RG.p (RG.p (RG.p (RG.p (RG.p (RG.p (RG.p (RG.p (RG.p (RG.p (RG.p (RG.p (RG.p (RG.p (RG.p (RG.p (RG.p (RG.p (RG.p (RG.p (RG.p (RG.p (RG.p (RG.p (RG.p (RG.p (RG.p (RG.p (RG.p (RG.p (RG.p (RG.p (RG.p (RG.p (RG.p (RG.p (RG.p (RG.p (RG.p (RG.p (RG.p (RG.p f 156 (f.r 18)) 157 (f.r 20)) 158 v1) 159 v1) 159 (Value.bool false)) 160 (f.r 22)) 161 (f.r 24)) 162 v2) 163 v2) 164 v2) 164 (Value.bool false)) 165 (f.r 21)) 166 (f.r 23)) 167 v3) 168 v3) 169 v3) 169 (Value.bool false)) 170 (f.r 25)) 171 (f.r 28)) 172 v4) 173 v4) 174 v4) 174 (Value.bool true)) 175 undef) 176 undef) 177 undef) 178 (Value.bool true)) 179 (Value.bool true)) 179 (Value.bool true)) 180 undef) 181 undef) 182 undef) 183 (Value.bool true)) 184 (Value.bool true)) 184 (Value.bool true)) 185 undef) 186 undef) 187 undef) 188 undef) 189 (Value.bool true)) 190 (Value.bool true)) 190 (Value.bool true)) 191 undef) 192 undef) 193 undef) 194 undef) 195 undef) 196 undef) 197 undef) 198 (Value.bool true)) h (contX pl11 prog J 200 n0 11 ct11 [1, 1, 1, 1, 1, 0, 1, 0, 0, 1, 0, 0, 1, 1, 1, 1, 1, 1, 1, 1] (codeOf f11) [nx0] (RetQ prog [.tmp 8] n0 K))))
(aBin prog .neq 3 (f.r 26) (f.r 29) fun v5 =>
cnd v5
(Hold (W prog J 200 n0 11 (subC [1, 1, 1, 1, 1, 0, 1, 0, 0, 1, 0, 0, 1, 1, 1, 1, 1, 1, 1, 1] (codeOf f11)) (RG.p (RG.p (RG.p (RG.p (RG.p (RG.p (RG.p (RG.p (RG.p (RG.p (RG.p (RG.p (RG.p (RG.p (RG.p (RG.p (RG.p (RG.p (RG.p (RG.p (RG.p (RG.p (RG.p (RG.p (RG.p (RG.p (RG.p (RG.p (RG.p (RG.p (RG.p (RG.p (RG.p (RG.p (RG.p (RG.p (RG.p (RG.p (RG.p (RG.p (RG.p (RG.p (RG.p (RG.p (RG.p (RG.p (RG.p (RG.p (RG.p (RG.p f 156 (f.r 18)) 157 (f.r 20)) 158 v1) 159 v1) 159 (Value.bool false)) 160 (f.r 22)) 161 (f.r 24)) 162 v2) 163 v2) 164 v2) 164 (Value.bool false)) 165 (f.r 21)) 166 (f.r 23)) 167 v3) 168 v3) 169 v3) 169 (Value.bool false)) 170 (f.r 25)) 171 (f.r 28)) 172 v4) 173 v4) 174 v4) 174 (Value.bool false)) 175 (f.r 26)) 176 (f.r 29)) 177 v5) 178 v5) 179 v5) 179 (Value.bool true)) 180 undef) 181 undef) 182 undef) 183 (Value.bool true)) 184 (Value.bool true)) 184 (Value.bool true)) 185 undef) 186 undef) 187 undef) 188 undef) 189 (Value.bool true)) 190 (Value.bool true)) 190 (Value.bool true)) 191 undef) 192 undef) 193 undef) 194 undef) 195 undef) 196 undef) 197 undef) 198 (Value.bool true)) h (contX pl11 prog J 200 n0 11 ct11 [1, 1, 1, 1, 1, 0, 1, 0, 0, 1, 0, 0, 1, 1, 1, 1, 1, 1, 1, 1] (codeOf f11) [nx0] (RetQ prog [.tmp 8] n0 K))))
(aBin prog .neq 37 (f.r 27) (f.r 30) fun v6 =>
cnd v6
(Hold (W prog J 200 n0 11 (subC [1, 1, 1, 1, 1, 0, 1, 0, 0, 1, 0, 0, 1, 1, 1, 1, 1, 1, 1, 1] (codeOf f11)) (RG.p (RG.p (RG.p (RG.p (RG.p (RG.p (RG.p (RG.p (RG.p (RG.p (RG.p (RG.p (RG.p (RG.p (RG.p (RG.p (RG.p (RG.p (RG.p (RG.p (RG.p (RG.p (RG.p (RG.p (RG.p (RG.p (RG.p (RG.p (RG.p (RG.p (RG.p (RG.p (RG.p (RG.p (RG.p (RG.p (RG.p (RG.p (RG.p (RG.p (RG.p (RG.p (RG.p (RG.p (RG.p (RG.p (RG.p (RG.p (RG.p (RG.p f 156 (f.r 18)) 157 (f.r 20)) 158 v1) 159 v1) 159 (Value.bool false)) 160 (f.r 22)) 161 (f.r 24)) 162 v2) 163 v2) 164 v2) 164 (Value.bool false)) 165 (f.r 21)) 166 (f.r 23)) 167 v3) 168 v3) 169 v3) 169 (Value.bool false)) 170 (f.r 25)) 171 (f.r 28)) 172 v4) 173 v4) 174 v4) 174 (Value.bool false)) 175 (f.r 26)) 176 (f.r 29)) 177 v5) 178 v5) 179 v5) 179 (Value.bool false)) 180 (f.r 27)) 181 (f.r 30)) 182 v6) 183 v6) 184 v6) 184 (Value.bool true)) 185 undef) 186 undef) 187 undef) 188 undef) 189 (Value.bool true)) 190 (Value.bool true)) 190 (Value.bool true)) 191 undef) 192 undef) 193 undef) 194 undef) 195 undef) 196 undef) 197 undef) 198 (Value.bool true)) h (contX pl11 prog J 200 n0 11 ct11 [1, 1, 1, 1, 1, 0, 1, 0, 0, 1, 0, 0, 1, 1, 1, 1, 1, 1, 1, 1] (codeOf f11) [nx0] (RetQ prog [.tmp 8] n0 K))))
(Good prog J 53 [(f.r 17), (f.r 19)] h fun v7 h8 =>
aUn .not v7 fun v9 =>
cnd v9
(Hold (W prog J 200 n0 11 (subC [1, 1, 1, 1, 1, 0, 1, 0, 0, 1, 0, 0, 1, 1, 1, 1, 1, 1, 1, 1] (codeOf f11)) (RG.p (RG.p (RG.p (RG.p (RG.p (RG.p (RG.p (RG.p (RG.p (RG.p (RG.p (RG.p (RG.p (RG.p (RG.p (RG.p (RG.p (RG.p (RG.p (RG.p (RG.p (RG.p (RG.p (RG.p (RG.p (RG.p (RG.p (RG.p (RG.p (RG.p (RG.p (RG.p (RG.p (RG.p (RG.p (RG.p (RG.p (RG.p (RG.p (RG.p (RG.p (RG.p (RG.p (RG.p (RG.p (RG.p (RG.p (RG.p (RG.p (RG.p f 156 (f.r 18)) 157 (f.r 20)) 158 v1) 159 v1) 159 (Value.bool false)) 160 (f.r 22)) 161 (f.r 24)) 162 v2) 163 v2) 164 v2) 164 (Value.bool false)) 165 (f.r 21)) 166 (f.r 23)) 167 v3) 168 v3) 169 v3) 169 (Value.bool false)) 170 (f.r 25)) 171 (f.r 28)) 172 v4) 173 v4) 174 v4) 174 (Value.bool false)) 175 (f.r 26)) 176 (f.r 29)) 177 v5) 178 v5) 179 v5) 179 (Value.bool false)) 180 (f.r 27)) 181 (f.r 30)) 182 v6) 183 v6) 184 v6) 184 (Value.bool false)) 185 (f.r 17)) 186 (f.r 19)) 187 v7) 188 v9) 189 v9) 190 v9) 190 (Value.bool true)) 191 undef) 192 undef) 193 undef) 194 undef) 195 undef) 196 undef) 197 undef) 198 (Value.bool true)) h8 (contX pl11 prog J 200 n0 11 ct11 [1, 1, 1, 1, 1, 0, 1, 0, 0, 1, 0, 0, 1, 1, 1, 1, 1, 1, 1, 1] (codeOf f11) [nx0] (RetQ prog [.tmp 8] n0 K))))
(aIdx 1 (f.r 13) (f.r 15) fun v10 =>
aLoad false 1 v10 h8 fun v11 =>
Good prog J 29 [(f.r 16), v11] h8 fun v12 h13 =>
aUn .not v12 fun v14 =>
Hold (W prog J 200 n0 11 (subC [1, 1, 1, 1, 1, 0, 1, 0, 0, 1, 0, 0, 1, 1, 1, 1, 1, 1, 1, 1] (codeOf f11)) (RG.p (RG.p (RG.p (RG.p (RG.p (RG.p (RG.p (RG.p (RG.p (RG.p (RG.p (RG.p (RG.p (RG.p (RG.p (RG.p (RG.p (RG.p (RG.p (RG.p (RG.p (RG.p (RG.p (RG.p (RG.p (RG.p (RG.p (RG.p (RG.p (RG.p (RG.p (RG.p (RG.p (RG.p (RG.p (RG.p (RG.p (RG.p (RG.p (RG.p (RG.p (RG.p (RG.p (RG.p (RG.p (RG.p (RG.p (RG.p (RG.p (RG.p f 156 (f.r 18)) 157 (f.r 20)) 158 v1) 159 v1) 159 (Value.bool false)) 160 (f.r 22)) 161 (f.r 24)) 162 v2) 163 v2) 164 v2) 164 (Value.bool false)) 165 (f.r 21)) 166 (f.r 23)) 167 v3) 168 v3) 169 v3) 169 (Value.bool false)) 170 (f.r 25)) 171 (f.r 28)) 172 v4) 173 v4) 174 v4) 174 (Value.bool false)) 175 (f.r 26)) 176 (f.r 29)) 177 v5) 178 v5) 179 v5) 179 (Value.bool false)) 180 (f.r 27)) 181 (f.r 30)) 182 v6) 183 v6) 184 v6) 184 (Value.bool false)) 185 (f.r 17)) 186 (f.r 19)) 187 v7) 188 v9) 189 v9) 190 v9) 190 (Value.bool false)) 191 (f.r 16)) 192 (f.r 13)) 193 (f.r 15)) 194 v10) 195 v11) 196 v12) 197 v14) 198 v14) h13 (contX pl11 prog J 200 n0 11 ct11 [1, 1, 1, 1, 1, 0, 1, 0, 0, 1, 0, 0, 1, 1, 1, 1, 1, 1, 1, 1] (codeOf f11) [nx0] (RetQ prog [.tmp 8] n0 K))))))))))) := sub_eq pok11 ct11 (by kernel_rfl)
theorem s11_7 {f : RG} {nx0 : RG → List AObj → Prop} : W prog J 200 n0 11 (subC [1, 1, 1, 1, 1, 0, 1, 0, 0, 1, 0, 0, 1, 1, 1, 1, 1, 1, 1, 1] (codeOf f11)) f h (contX pl11 prog J 200 n0 11 ct11 [1, 1, 1, 1, 1, 0, 1, 0, 0, 1, 0, 0, 1, 1, 1, 1, 1, 1, 1, 1] (codeOf f11) [nx0] (RetQ prog [.tmp 8] n0 K)) =
(cnd (f.r 198)
(retL n0 K f.ds [(Value.bool false)] h)
(aBin prog .add 3 (f.r 15) (vint 1) fun v1 =>
nx0 (RG.p (RG.p (RG.p f 60 (f.r 15)) 61 v1) 15 v1) h)) := sub_eq pok11 ct11 (by kernel_rfl)
end
section
variable {main : Bool} {J : JT} {n0 : Nat} {h : List AObj} {K : Value → List AObj → Prop}
theorem at132 : prog.funcs[132]? = some f132 := by kernel_rfl
theorem body132 : f132.body = some (codeOf f132) := by kernel_rfl
def pl132 : Plans := []
def ct132 : Cuts := .go
theorem pok132 : plansOk prog pl132 (codeOf f132) = true := by kernel_rfl
theorem e132 {a0 a1 : Value} : W prog J 26 h.length 132 (codeOf f132) (RG.mk (regs [a0, a1]) []) h (RetQ prog [.tmp 4] h.length K) =
(aLenS a0 fun v1 =>
aBin prog .lss 3 v1 a1 fun v2 =>
cnd v2
(retL h.length K [] [(vint 7)] h)
(aLenS a0 fun v3 =>
aBin prog .gtr 3 v3 a1 fun v4 =>
cnd v4
(retL h.length K [] [(vint 6)] h)
(Sem J 26 h.length 132 (subC [1, 1, 1, 0, 1, 0] (codeOf f132)) (RG.p (RG.p (RG.p (RG.p (RG.p (RG.p (RG.p (RG.p (RG.p (RG.p (RG.mk (regs [a0, a1]) []) 4 (vint 0)) 6 a0) 7 v1) 8 a1) 9 v2) 10 a0) 11 v3) 12 a1) 13 v4) 5 (vint 0)) h (contX pl132 prog J 26 h.length 132 ct132 [1, 1, 1, 0, 1, 0] (codeOf f132) [] (RetQ prog [.tmp 4] h.length K))))) := top_eq pok132 ct132 (by kernel_rfl)
theorem g132 (hJ : Closed prog main J) {a0 a1 : Value} (hs : heapOk h → W prog J 26 h.length 132 (codeOf f132) (RG.mk (regs [a0, a1]) []) h (RetQ prog [.tmp 4] h.length K)) : Good prog J 132 [a0, a1] h K :=
 good_of_W hJ mixed at132 body132 (by kernel_rfl) (Nat.le_of_ble_eq_true rfl) hs
theorem s132_1 {f : RG} {nx0 : RG → List AObj → Prop} : W prog J 26 n0 132 (subC [1, 1, 1, 0, 1, 0, 0] (codeOf f132)) f h (thenK nx0 (contX pl132 prog J 26 n0 132 ct132 [1, 1, 1, 0, 1, 0] (codeOf f132) [] (RetQ prog [.tmp 4] n0 K))) =
(aLenS (f.r 0) fun v1 =>
aBin prog .lss 3 (f.r 5) v1 fun v2 =>
cnd v2
(aIdx 1 (f.r 0) (f.r 5) fun v3 =>
aLoad false 1 v3 h fun v4 =>
Good prog J 82 [v4, (vint 0), (vint 40)] h fun v5 h6 =>
aUn .not v5 fun v7 =>
cnd v7
(retL n0 K f.ds [(vint 1)] h6)
(aBin prog .add 3 (f.r 5) (vint 1) fun v8 =>
nx0 (RG.p (RG.p (RG.p (RG.p (RG.p (RG.p (RG.p (RG.p (RG.p (RG.p (RG.p (RG.p (RG.p f 14 (f.r 5)) 15 (f.r 0)) 16 v1) 17 v2) 20 (f.r 0)) 21 (f.r 5)) 22 v3) 23 v4) 24 v5) 25 v7) 18 (f.r 5)) 19 v8) 5 v8) h6))
(retL n0 K f.ds [(vint 0)] h)) := sub_eq pok132 ct132 (by kernel_rfl)
theorem l132_1 (hJ : Closed prog main J) {S : Type} (μ : S → Nat) (I : S → RG → List AObj → Prop) (hI : ∀ s f h, I s f h → heapOk h → n0 ≤ h.length → W prog J 26 n0 132 (subC [1, 1, 1, 0, 1, 0, 0] (codeOf f132)) f h (thenK (Nx n0 μ I s) (contX pl132 prog J 26 n0 132 ct132 [1, 1, 1, 0, 1, 0] (codeOf f132) [] (RetQ prog [.tmp 4] n0 K))))
 {s : S} {f : RG} (hi : Gets n0 I s f h) : Sem J 26 n0 132 (subC [1, 1, 1, 0, 1, 0] (codeOf f132)) f h (contX pl132 prog J 26 n0 132 ct132 [1, 1, 1, 0, 1, 0] (codeOf f132) [] (RetQ prog [.tmp 4] n0 K)) :=
 loop_rule hJ mixed (b := subC [1, 1, 1, 0, 1, 0, 0] (codeOf f132)) (by kernel_rfl) μ I hI hi
theorem at96 : prog.funcs[96]? = some f96 := by kernel_rfl
theorem body96 : f96.body = some (codeOf f96) := by kernel_rfl
def pl96 : Plans := []
def ct96 : Cuts := .go
theorem pok96 : plansOk prog pl96 (codeOf f96) = true := by kernel_rfl
theorem e96 {a0 a1 a2 : Value} : W prog J 23 h.length 96 (codeOf f96) (RG.mk (regs [a0, a1, a2]) []) h (RetQ prog [.tmp 6] h.length K) =
(aBox a0 h fun v1 h2 =>
aBox a2 h2 fun v3 h4 =>
aLoad true 6 v1 h4 fun v5 =>
Good prog J 37 [v5] h4 fun v6 h7 =>
aBin prog .neq 37 v6 (vint 0) fun v8 =>
cnd v8
(retL h.length K [] [v6] h7)
(aLoad true 3 v3 h7 fun v9 =>
Good prog J 81 [v9] h7 fun v10 h11 =>
aBin prog .neq 37 v10 (vint 0) fun v12 =>
cnd v12
(retL h.length K [] [v10] h11)
(aOff v3 0 fun v13 =>
aLoad false 1 v13 h11 fun v14 =>
Good prog J 132 [a1, v14] h11 fun v15 h16 =>
retL h.length K [] [v15] h16))) := top_eq pok96 ct96 (by kernel_rfl)
theorem g96 (hJ : Closed prog main J) {a0 a1 a2 : Value} (hs : heapOk h → W prog J 23 h.length 96 (codeOf f96) (RG.mk (regs [a0, a1, a2]) []) h (RetQ prog [.tmp 6] h.length K)) : Good prog J 96 [a0, a1, a2] h K :=
 good_of_W hJ mixed at96 body96 (by kernel_rfl) (Nat.le_of_ble_eq_true rfl) hs
theorem at48 : prog.funcs[48]? = some f48 := by kernel_rfl
theorem body48 : f48.body = some (codeOf f48) := by kernel_rfl
def pl48 : Plans := [(9, true, .take 0 (.take 1 (.take 2 (.take 3 (.take 4 (.take 5 (.last 6 false (.take 7 (.take 8 (.take 9 (.take 10 (.take 11 (.take 12 (.take 13 (.fin))))))))))))))),
 (14, false, .take 0 (.take 1 (.take 2 (.take 3 (.take 4 (.take 5 (.take 6 (.take 7 (.take 8 (.take 9 (.last 10 true (.last 11 true (.take 12 (.fin)))))))))))))),
 (15, true, .take 0 (.take 1 (.take 2 (.take 3 (.take 4 (.take 5 (.take 6 (.take 7 (.take 8 (.take 9 (.take 10 (.take 11 (.take 12 (.take 13 (.take 14 (.take 15 (.take 16 (.take 17 (.take 18 (.take 19 (.take 20 (.take 21 (.take 22 (.take 23 (.last 24 false (.fin))))))))))))))))))))))))))]
def ct48 : Cuts := .bin (.go) (.bin (.go) (.bin (.go) (.bin (.go) (.bin (.bin (.go) (.un (.un (.bin (.go) (.bin (.un (.bin (.go) (.bin (.go) (.un (.un (.bin (.go) (.bin (.un (.bin (.go) (.cut (.go)))) (.go)))))))) (.go)))))) (.go)))))
theorem pok48 : plansOk prog pl48 (codeOf f48) = true := by kernel_rfl
theorem e48 {a0 a1 a2 : Value} : W prog J 87 h.length 48 (codeOf f48) (RG.mk (regs [a0, a1, a2]) []) h (RetQ prog [.tmp 6, .tmp 7] h.length K) =
(aBox a0 h fun v1 h2 =>
aBox a2 h2 fun v3 h4 =>
aLoad true 6 v1 h4 fun v5 =>
aLoad true 3 v3 h4 fun v6 =>
Good prog J 96 [v5, a1, v6] h4 fun v7 h8 =>
aBin prog .neq 37 v7 (vint 0) fun v9 =>
cnd v9
(retL h.length K [] [(Value.slice none 0 0), v7] h8)
(aLoad true 3 v3 h8 fun v10 =>
Good prog J 91 [v10] h8 fun v11 h12 =>
Sem J 87 h.length 48 (subC [1, 1, 1, 1, 0, 1, 0] (codeOf f48)) (RG.p (RG.p (RG.p (RG.p (RG.p (RG.p (RG.p (RG.p (RG.p (RG.p (RG.p (RG.p (RG.p (RG.p (RG.p (RG.p (RG.mk (regs [a0, a1, a2]) []) 3 v1) 5 v3) 6 (Value.slice none 0 0)) 7 (vint 0)) 16 v5) 17 a1) 18 v6) 19 v7) 8 v7) 20 v7) 21 v9) 9 (Value.slice none 0 0)) 23 v10) 24 v11) 10 v11) 11 (vint 0)) h12 (contX pl48 prog J 87 h.length 48 ct48 [1, 1, 1, 1, 0, 1, 0] (codeOf f48) [] (RetQ prog [.tmp 6, .tmp 7] h.length K)))) := top_eq pok48 ct48 (by kernel_rfl)
theorem g48 (hJ : Closed prog main J) {a0 a1 a2 : Value} (hs : heapOk h → W prog J 87 h.length 48 (codeOf f48) (RG.mk (regs [a0, a1, a2]) []) h (RetQ prog [.tmp 6, .tmp 7] h.length K)) : Good prog J 48 [a0, a1, a2] h K :=
 good_of_W hJ mixed at48 body48 (by kernel_rfl) (Nat.le_of_ble_eq_true rfl) hs
theorem s48_1 {f : RG} {nx0 : RG → List AObj → Prop} : W prog J 87 n0 48 (subC [1, 1, 1, 1, 0, 1, 0, 0] (codeOf f48)) f h (thenK nx0 (contX pl48 prog J 87 n0 48 ct48 [1, 1, 1, 1, 0, 1, 0] (codeOf f48) [] (RetQ prog [.tmp 6, .tmp 7] n0 K))) =
(aLenS (f.r 10) fun v1 =>
aBin prog .lss 3 (f.r 11) v1 fun v2 =>
cnd v2
(aLoad true 6 (f.r 3) h fun v3 =>
aIdx 1 (f.r 10) (f.r 11) fun v4 =>
aLoad false 1 v4 h fun v5 =>
Good prog J 97 [v3, (f.r 1), v5] h fun v6 h7 =>
aExt v6 0 fun v8 =>
aExt v6 1 fun v9 =>
aExt v6 2 fun v10 =>
Sem J 87 n0 48 (subC [1, 1, 1, 1, 0, 1, 0, 0, 1, 0, 0, 1, 1, 0] (codeOf f48)) (RG.p (RG.p (RG.p (RG.p (RG.p (RG.p (RG.p (RG.p (RG.p (RG.p (RG.p (RG.p (RG.p (RG.p (RG.p (RG.p (RG.p (RG.p (RG.p f 25 (f.r 11)) 26 (f.r 10)) 27 v1) 28 v2) 32 v3) 33 (f.r 1)) 34 (f.r 10)) 35 (f.r 11)) 36 v4) 37 v5) 38 v6) 31 v6) 39 v8) 40 v9) 41 v10) 12 v8) 13 v9) 14 v10) 15 (vint 0)) h7 (contX pl48 prog J 87 n0 48 ct48 [1, 1, 1, 1, 0, 1, 0, 0, 1, 0, 0, 1, 1, 0] (codeOf f48) [nx0] (RetQ prog [.tmp 6, .tmp 7] n0 K)))
(retL n0 K f.ds [(f.r 9), (vint 0)] h)) := sub_eq pok48 ct48 (by kernel_rfl)
theorem l48_1 (hJ : Closed prog main J) {S : Type} (μ : S → Nat) (I : S → RG → List AObj → Prop) (hI : ∀ s f h, I s f h → heapOk h → n0 ≤ h.length → W prog J 87 n0 48 (subC [1, 1, 1, 1, 0, 1, 0, 0] (codeOf f48)) f h (thenK (Nx n0 μ I s) (contX pl48 prog J 87 n0 48 ct48 [1, 1, 1, 1, 0, 1, 0] (codeOf f48) [] (RetQ prog [.tmp 6, .tmp 7] n0 K))))
 {s : S} {f : RG} (hi : Gets n0 I s f h) : Sem J 87 n0 48 (subC [1, 1, 1, 1, 0, 1, 0] (codeOf f48)) f h (contX pl48 prog J 87 n0 48 ct48 [1, 1, 1, 1, 0, 1, 0] (codeOf f48) [] (RetQ prog [.tmp 6, .tmp 7] n0 K)) :=
 loop_rule hJ mixed (b := subC [1, 1, 1, 1, 0, 1, 0, 0] (codeOf f48)) (by kernel_rfl) μ I hI hi
theorem s48_2 {f : RG} {nx0 nx1 : RG → List AObj → Prop} : W prog J 87 n0 48 (subC [1, 1, 1, 1, 0, 1, 0, 0, 1, 0, 0, 1, 1, 0, 0] (codeOf f48)) f h (thenK nx1 (contX pl48 prog J 87 n0 48 ct48 [1, 1, 1, 1, 0, 1, 0, 0, 1, 0, 0, 1, 1, 0] (codeOf f48) [nx0] (RetQ prog [.tmp 6, .tmp 7] n0 K))) =
(aLenS (f.r 12) fun v1 =>
aBin prog .lss 3 (f.r 15) v1 fun v2 =>
cnd v2
(aBin prog .eql 3 (f.r 11) (vint 0) fun v3 =>
cnd v3
((∃ B, aIdx 1 (f.r 12) (f.r 15) fun v4 =>
aLoad false 1 v4 h fun v5 =>
RdOk (some B) (ptrBlk v4) ∧ (aIdx 1 (f.r 12) (f.r 15) fun v6 =>
aLoad false 1 v6 h fun v7 =>
RdOk (some B) (ptrBlk v6) ∧ (aFill [(vint 0), (vint 0)] [(0, 1, v5), (1, 1, v7)] fun c8 =>
(((1 * 2 : Nat) ≤ 16777216 ∧ (1 : Nat) ≤ 16777216 ∧ List.length [(vint 0), (vint 0)] = 2) ∧ aFill (zrep [(vint 0), (vint 0)] 1) [(0, 2, (Value.agg ⟨c8⟩))] fun c9 =>
aNewS 1 c9 h fun v10 h11 =>
SameB (some B) h h11 ∧ (((List.length [(vint 0), (vint 0)] = 2 ∧ 0 < (2 : Nat) ∧ 0 < (16 : Nat) ∧ (16 : Nat) ≤ 1024) ∧ aApp 2 (f.r 9) v10 h11 fun v12 h13 =>
SameB (some B) h h13 ∧ (Hold (W prog J 87 n0 48 (subC [1, 1, 1, 1, 0, 1, 0, 0, 1, 0, 0, 1, 1, 0, 0, 1, 0, 0, 1] (codeOf f48)) (RG.p (RG.p (RG.p (RG.p (RG.p (RG.p (RG.p (RG.p (RG.p (RG.p (RG.p (RG.p (RG.p (RG.p (RG.p (RG.p (RG.p (RG.p (RG.p f 42 (f.r 15)) 43 (f.r 12)) 44 v1) 45 v2) 48 (f.r 11)) 49 v3) 50 (f.r 9)) 51 (f.r 12)) 52 (f.r 15)) 53 v4) 54 v5) 55 (f.r 12)) 56 (f.r 15)) 57 v6) 58 v7) 59 (Value.agg ⟨c8⟩)) 60 v10) 61 v12) 9 v12) h13 (contX pl48 prog J 87 n0 48 ct48 [1, 1, 1, 1, 0, 1, 0, 0, 1, 0, 0, 1, 1, 0, 0, 1, 0, 0, 1] (codeOf f48) [nx0, nx1] (RetQ prog [.tmp 6, .tmp 7] n0 K)))))))))))
(Hold (W prog J 87 n0 48 (subC [1, 1, 1, 1, 0, 1, 0, 0, 1, 0, 0, 1, 1, 0, 0, 1, 0, 0, 1] (codeOf f48)) (RG.p (RG.p (RG.p (RG.p (RG.p (RG.p f 42 (f.r 15)) 43 (f.r 12)) 44 v1) 45 v2) 48 (f.r 11)) 49 v3) h (contX pl48 prog J 87 n0 48 ct48 [1, 1, 1, 1, 0, 1, 0, 0, 1, 0, 0, 1, 1, 0, 0, 1, 0, 0, 1] (codeOf f48) [nx0, nx1] (RetQ prog [.tmp 6, .tmp 7] n0 K)))))
(aBin prog .add 3 (f.r 11) (vint 1) fun v14 =>
nx0 (RG.p (RG.p (RG.p (RG.p (RG.p (RG.p (RG.p f 42 (f.r 15)) 43 (f.r 12)) 44 v1) 45 v2) 29 (f.r 11)) 30 v14) 11 v14) h)) := sub_eq pok48 ct48 (by kernel_rfl)
theorem l48_2 (hJ : Closed prog main J) {nx0 : RG → List AObj → Prop} {S : Type} (μ : S → Nat) (I : S → RG → List AObj → Prop) (hI : ∀ s f h, I s f h → heapOk h → n0 ≤ h.length → W prog J 87 n0 48 (subC [1, 1, 1, 1, 0, 1, 0, 0, 1, 0, 0, 1, 1, 0, 0] (codeOf f48)) f h (thenK (Nx n0 μ I s) (contX pl48 prog J 87 n0 48 ct48 [1, 1, 1, 1, 0, 1, 0, 0, 1, 0, 0, 1, 1, 0] (codeOf f48) [nx0] (RetQ prog [.tmp 6, .tmp 7] n0 K))))
 {s : S} {f : RG} (hi : Gets n0 I s f h) : Sem J 87 n0 48 (subC [1, 1, 1, 1, 0, 1, 0, 0, 1, 0, 0, 1, 1, 0] (codeOf f48)) f h (contX pl48 prog J 87 n0 48 ct48 [1, 1, 1, 1, 0, 1, 0, 0, 1, 0, 0, 1, 1, 0] (codeOf f48) [nx0] (RetQ prog [.tmp 6, .tmp 7] n0 K)) :=
 loop_rule hJ mixed (b := subC [1, 1, 1, 1, 0, 1, 0, 0, 1, 0, 0, 1, 1, 0, 0] (codeOf f48)) (by kernel_rfl) μ I hI hi
theorem s48_3 {f : RG} {nx0 nx1 : RG → List AObj → Prop} : W prog J 87 n0 48 (subC [1, 1, 1, 1, 0, 1, 0, 0, 1, 0, 0, 1, 1, 0, 0, 1, 0, 0, 1] (codeOf f48)) f h (contX pl48 prog J 87 n0 48 ct48 [1, 1, 1, 1, 0, 1, 0, 0, 1, 0, 0, 1, 1, 0, 0, 1, 0, 0, 1] (codeOf f48) [nx0, nx1] (RetQ prog [.tmp 6, .tmp 7] n0 K)) =
(aIdx 2 (f.r 9) (f.r 15) fun v1 =>
aOff v1 0 fun v2 =>
aLoad false 1 v2 h fun v3 =>
aIdx 1 (f.r 12) (f.r 15) fun v4 =>
aLoad false 1 v4 h fun v5 =>
aMin v3 [v5] fun v6 =>
aIdx 2 (f.r 9) (f.r 15) fun v7 =>
aOff v7 1 fun v8 =>
aLoad false 1 v8 h fun v9 =>
aIdx 1 (f.r 12) (f.r 15) fun v10 =>
aLoad false 1 v10 h fun v11 =>
aMax v9 [v11] fun v12 =>
aFill [(vint 0), (vint 0)] [(0, 1, v6), (1, 1, v12)] fun c13 =>
aIdx 2 (f.r 9) (f.r 15) fun v14 =>
aStore 2 v14 (Value.agg ⟨c13⟩) h fun h15 =>
aBin prog .add 3 (f.r 15) (vint 1) fun v16 =>
nx1 (RG.p (RG.p (RG.p (RG.p (RG.p (RG.p (RG.p (RG.p (RG.p (RG.p (RG.p (RG.p (RG.p (RG.p (RG.p (RG.p (RG.p (RG.p (RG.p (RG.p (RG.p (RG.p (RG.p (RG.p (RG.p (RG.p (RG.p f 62 (f.r 9)) 63 (f.r 15)) 64 (f.r 9)) 65 (f.r 15)) 66 v1) 67 v2) 68 v3) 69 (f.r 12)) 70 (f.r 15)) 71 v4) 72 v5) 73 v6) 74 (f.r 9)) 75 (f.r 15)) 76 v7) 77 v8) 78 v9) 79 (f.r 12)) 80 (f.r 15)) 81 v10) 82 v11) 83 v12) 84 (Value.agg ⟨c13⟩)) 85 v14) 46 (f.r 15)) 47 v16) 15 v16) h15) := sub_eq pok48 ct48 (by kernel_rfl)
theorem at50 : prog.funcs[50]? = some f50 := by kernel_rfl
theorem body50 : f50.body = some (codeOf f50) := by kernel_rfl
def pl50 : Plans := []
def ct50 : Cuts := .go
theorem pok50 : plansOk prog pl50 (codeOf f50) = true := by kernel_rfl
theorem e50 {a0 a1 a2 : Value} : W prog J 31 h.length 50 (codeOf f50) (RG.mk (regs [a0, a1, a2]) []) h (RetQ prog [.tmp 6, .tmp 7] h.length K) =
(aBox a0 h fun v1 h2 =>
aBox a2 h2 fun v3 h4 =>
aLoad true 6 v1 h4 fun v5 =>
aLoad true 3 v3 h4 fun v6 =>
Good prog J 96 [v5, a1, v6] h4 fun v7 h8 =>
aBin prog .neq 37 v7 (vint 0) fun v9 =>
cnd v9
(retL h.length K [] [(vint 0), v7] h8)
(aLoad true 6 v1 h8 fun v10 =>
aLoad true 3 v3 h8 fun v11 =>
Good prog J 99 [v10, a1, v11] h8 fun v12 h13 =>
aExt v12 0 fun v14 =>
aExt v12 1 fun v15 =>
aBin prog .eql 3 v14 (vint 0) fun v16 =>
cnd v16
(retL h.length K [] [(vint 2), (vint 0)] h13)
(aBin prog .eql 3 v14 v15 fun v17 =>
cnd v17
(retL h.length K [] [(vint 1), (vint 0)] h13)
(retL h.length K [] [(vint 3), (vint 0)] h13)))) := top_eq pok50 ct50 (by kernel_rfl)
theorem g50 (hJ : Closed prog main J) {a0 a1 a2 : Value} (hs : heapOk h → W prog J 31 h.length 50 (codeOf f50) (RG.mk (regs [a0, a1, a2]) []) h (RetQ prog [.tmp 6, .tmp 7] h.length K)) : Good prog J 50 [a0, a1, a2] h K :=
 good_of_W hJ mixed at50 body50 (by kernel_rfl) (Nat.le_of_ble_eq_true rfl) hs
theorem at52 : prog.funcs[52]? = some f52 := by kernel_rfl
theorem body52 : f52.body = some (codeOf f52) := by kernel_rfl
def pl52 : Plans := [(4, true, .take 0 (.take 1 (.take 2 (.take 3 (.fin))))),
 (9, true, .take 0 (.take 1 (.take 2 (.take 3 (.take 4 (.take 5 (.last 6 false (.take 7 (.take 8 (.take 9 (.take 10 (.take 11 (.take 12 (.take 13 (.fin))))))))))))))),
 (11, true, .take 0 (.take 1 (.take 2 (.take 3 (.take 4 (.take 5 (.take 6 (.take 7 (.take 8 (.fin))))))))))]
def ct52 : Cuts := .bin (.go) (.bin (.go) (.bin (.go) (.bin (.go) (.bin (.bin (.go) (.un (.un (.bin (.go) (.bin (.un (.bin (.go) (.bin (.go) (.cut (.go))))) (.go)))))) (.go)))))
theorem pok52 : plansOk prog pl52 (codeOf f52) = true := by kernel_rfl
theorem e52 {a0 a1 a2 : Value} : W prog J 68 h.length 52 (codeOf f52) (RG.mk (regs [a0, a1, a2]) []) h (RetQ prog [.tmp 6, .tmp 7, .tmp 8] h.length K) =
(aBox a0 h fun v1 h2 =>
aBox a2 h2 fun v3 h4 =>
aLoad true 6 v1 h4 fun v5 =>
aLoad true 3 v3 h4 fun v6 =>
Good prog J 96 [v5, a1, v6] h4 fun v7 h8 =>
aBin prog .neq 37 v7 (vint 0) fun v9 =>
cnd v9
(retL h.length K [] [(Value.string { data := #[] }), (vint 0), v7] h8)
(aOff v3 0 fun v10 =>
aLoad false 1 v10 h8 fun v11 =>
aLoad true 3 v3 h8 fun v12 =>
Good prog J 91 [v12] h8 fun v13 h14 =>
Sem J 68 h.length 52 (subC [1, 1, 1, 1, 0, 1, 0] (codeOf f52)) (RG.p (RG.p (RG.p (RG.p (RG.p (RG.p (RG.p (RG.p (RG.p (RG.p (RG.p (RG.p (RG.p (RG.p (RG.p (RG.p (RG.p (RG.p (RG.p (RG.p (RG.mk (regs [a0, a1, a2]) []) 3 v1) 5 v3) 6 (Value.string { data := #[] })) 7 (vint 0)) 8 (vint 0)) 17 v5) 18 a1) 19 v6) 20 v7) 9 v7) 21 v7) 22 v9) 24 v10) 25 v11) 10 (Value.string { data := #[] })) 11 v11) 26 v12) 27 v13) 12 v13) 13 (vint 0)) h14 (contX pl52 prog J 68 h.length 52 ct52 [1, 1, 1, 1, 0, 1, 0] (codeOf f52) [] (RetQ prog [.tmp 6, .tmp 7, .tmp 8] h.length K)))) := top_eq pok52 ct52 (by kernel_rfl)
theorem g52 (hJ : Closed prog main J) {a0 a1 a2 : Value} (hs : heapOk h → W prog J 68 h.length 52 (codeOf f52) (RG.mk (regs [a0, a1, a2]) []) h (RetQ prog [.tmp 6, .tmp 7, .tmp 8] h.length K)) : Good prog J 52 [a0, a1, a2] h K :=
 good_of_W hJ mixed at52 body52 (by kernel_rfl) (Nat.le_of_ble_eq_true rfl) hs
theorem s52_1 {f : RG} {nx0 : RG → List AObj → Prop} : W prog J 68 n0 52 (subC [1, 1, 1, 1, 0, 1, 0, 0] (codeOf f52)) f h (thenK nx0 (contX pl52 prog J 68 n0 52 ct52 [1, 1, 1, 1, 0, 1, 0] (codeOf f52) [] (RetQ prog [.tmp 6, .tmp 7, .tmp 8] n0 K))) =
(aLenS (f.r 12) fun v1 =>
aBin prog .lss 3 (f.r 13) v1 fun v2 =>
cnd v2
(aLoad true 6 (f.r 3) h fun v3 =>
aIdx 1 (f.r 12) (f.r 13) fun v4 =>
aLoad false 1 v4 h fun v5 =>
Good prog J 97 [v3, (f.r 1), v5] h fun v6 h7 =>
aExt v6 0 fun v8 =>
aExt v6 1 fun v9 =>
aExt v6 2 fun v10 =>
aLenS v10 fun v11 =>
aBin prog .gtr 3 v11 (vint 0) fun v12 =>
cnd v12
(aIdx 1 v10 (vint 0) fun v13 =>
aLoad false 1 v13 h7 fun v14 =>
aBin prog .lss 3 v14 (f.r 11) fun v15 =>
Hold (W prog J 68 n0 52 (subC [1, 1, 1, 1, 0, 1, 0, 0, 1, 0, 0, 1, 1] (codeOf f52)) (RG.p (RG.p (RG.p (RG.p (RG.p (RG.p (RG.p (RG.p (RG.p (RG.p (RG.p (RG.p (RG.p (RG.p (RG.p (RG.p (RG.p (RG.p (RG.p (RG.p (RG.p (RG.p (RG.p (RG.p (RG.p (RG.p (RG.p (RG.p (RG.p f 28 (f.r 13)) 29 (f.r 12)) 30 v1) 31 v2) 35 v3) 36 (f.r 1)) 37 (f.r 12)) 38 (f.r 13)) 39 v4) 40 v5) 41 v6) 34 v6) 42 v8) 43 v9) 44 v10) 14 v8) 15 v9) 16 v10) 45 v10) 46 v11) 47 v12) 48 v12) 48 (Value.bool true)) 49 v10) 50 v13) 51 v14) 52 (f.r 11)) 53 v15) 54 v15) h7 (contX pl52 prog J 68 n0 52 ct52 [1, 1, 1, 1, 0, 1, 0, 0, 1, 0, 0, 1, 1] (codeOf f52) [nx0] (RetQ prog [.tmp 6, .tmp 7, .tmp 8] n0 K))))
(Hold (W prog J 68 n0 52 (subC [1, 1, 1, 1, 0, 1, 0, 0, 1, 0, 0, 1, 1] (codeOf f52)) (RG.p (RG.p (RG.p (RG.p (RG.p (RG.p (RG.p (RG.p (RG.p (RG.p (RG.p (RG.p (RG.p (RG.p (RG.p (RG.p (RG.p (RG.p (RG.p (RG.p (RG.p (RG.p (RG.p (RG.p (RG.p (RG.p (RG.p (RG.p (RG.p f 28 (f.r 13)) 29 (f.r 12)) 30 v1) 31 v2) 35 v3) 36 (f.r 1)) 37 (f.r 12)) 38 (f.r 13)) 39 v4) 40 v5) 41 v6) 34 v6) 42 v8) 43 v9) 44 v10) 14 v8) 15 v9) 16 v10) 45 v10) 46 v11) 47 v12) 48 v12) 48 (Value.bool false)) 49 undef) 50 undef) 51 undef) 52 undef) 53 undef) 54 (Value.bool false)) h7 (contX pl52 prog J 68 n0 52 ct52 [1, 1, 1, 1, 0, 1, 0, 0, 1, 0, 0, 1, 1] (codeOf f52) [nx0] (RetQ prog [.tmp 6, .tmp 7, .tmp 8] n0 K)))))
(aOff (f.r 5) 0 fun v16 =>
aLoad false 1 v16 h fun v17 =>
aBin prog .eql 3 (f.r 11) v17 fun v18 =>
cnd v18
(retL n0 K f.ds [(Value.string { data := #[] }), (vint 0), (vint 11)] h)
(retL n0 K f.ds [(f.r 10), (f.r 11), (vint 0)] h))) := sub_eq pok52 ct52 (by kernel_rfl)
theorem l52_1 (hJ : Closed prog main J) {S : Type} (μ : S → Nat) (I : S → RG → List AObj → Prop) (hI : ∀ s f h, I s f h → heapOk h → n0 ≤ h.length → W prog J 68 n0 52 (subC [1, 1, 1, 1, 0, 1, 0, 0] (codeOf f52)) f h (thenK (Nx n0 μ I s) (contX pl52 prog J 68 n0 52 ct52 [1, 1, 1, 1, 0, 1, 0] (codeOf f52) [] (RetQ prog [.tmp 6, .tmp 7, .tmp 8] n0 K))))
 {s : S} {f : RG} (hi : Gets n0 I s f h) : Sem J 68 n0 52 (subC [1, 1, 1, 1, 0, 1, 0] (codeOf f52)) f h (contX pl52 prog J 68 n0 52 ct52 [1, 1, 1, 1, 0, 1, 0] (codeOf f52) [] (RetQ prog [.tmp 6, .tmp 7, .tmp 8] n0 K)) :=
 loop_rule hJ mixed (b := subC [1, 1, 1, 1, 0, 1, 0, 0] (codeOf f52)) (by kernel_rfl) μ I hI hi
theorem s52_2 {f : RG} {nx0 : RG → List AObj → Prop} : W prog J 68 n0 52 (subC [1, 1, 1, 1, 0, 1, 0, 0, 1, 0, 0, 1, 1] (codeOf f52)) f h (contX pl52 prog J 68 n0 52 ct52 [1, 1, 1, 1, 0, 1, 0, 0, 1, 0, 0, 1, 1] (codeOf f52) [nx0] (RetQ prog [.tmp 6, .tmp 7, .tmp 8] n0 K)) =
(cnd (f.r 54)
(aIdx 1 (f.r 12) (f.r 13) fun v1 =>
aLoad false 1 v1 h fun v2 =>
aIdx 1 (f.r 16) (vint 0) fun v3 =>
aLoad false 1 v3 h fun v4 =>
aBin prog .add 3 (f.r 13) (vint 1) fun v5 =>
nx0 (RG.p (RG.p (RG.p (RG.p (RG.p (RG.p (RG.p (RG.p (RG.p (RG.p (RG.p (RG.p f 55 (f.r 12)) 56 (f.r 13)) 57 v1) 58 v2) 59 (f.r 16)) 60 v3) 61 v4) 10 v2) 11 v4) 32 (f.r 13)) 33 v5) 13 v5) h)
(aBin prog .add 3 (f.r 13) (vint 1) fun v6 =>
nx0 (RG.p (RG.p (RG.p f 32 (f.r 13)) 33 v6) 13 v6) h)) := sub_eq pok52 ct52 (by kernel_rfl)
end
section
variable {main : Bool} {J : JT} {n0 : Nat} {h : List AObj} {K : Value → List AObj → Prop}
def pl20 : Plans := [(9, true, .take 0 (.take 1 (.take 2 (.take 3 (.take 4 (.fin)))))),
 (13, true, .take 0 (.take 1 (.take 2 (.take 3 (.take 4 (.take 5 (.last 6 false (.take 7 (.take 8 (.take 9 (.take 10 (.take 11 (.fin))))))))))))),
 (19, true, .take 0 (.take 1 (.take 2 (.take 3 (.take 4 (.take 5 (.take 6 (.take 7 (.take 8 (.fin))))))))))]
def ct20 : Cuts := .bin (.go) (.bin (.go) (.bin (.go) (.bin (.go) (.bin (.go) (.bin (.go) (.bin (.go) (.bin (.bin (.go) (.cut (.go))) (.go))))))))
theorem pok20 : plansOk prog pl20 (codeOf f20) = true := by kernel_rfl
theorem e20 {a0 : Value} : W prog J 145 h.length 20 (codeOf f20) (RG.mk (regs [a0]) []) h (RetQ prog [.tmp 2] h.length K) =
(Good prog J 22 [a0] h fun v1 h2 =>
Good prog J 24 [v1] h2 fun v3 h4 =>
Good prog J 25 [v1, (vint 7)] h4 fun v5 h6 =>
aAlloc [(vint 0), (vint 0), (vint 0), (vint 0), (vint 0), (vint 0)] h6 fun v7 h8 =>
aAlloc [(vint 0), (vint 0), (vint 0)] h8 fun v9 h10 =>
aStore 6 v7 v3 h10 fun h11 =>
aStore 3 v9 v5 h11 fun h12 =>
aOff v9 0 fun v13 =>
aLoad false 1 v13 h12 fun v14 =>
Good prog J 30 [v1, v14, (vint 12)] h12 fun v15 h16 =>
aLoad true 6 v7 h16 fun v17 =>
aLoad true 3 v9 h16 fun v18 =>
Good prog J 49 [v17, v15, v18] h16 fun v19 h20 =>
aExt v19 0 fun v21 =>
aExt v19 1 fun v22 =>
aLoad true 6 v7 h20 fun v23 =>
aLoad true 3 v9 h20 fun v24 =>
Good prog J 51 [v23, v15, v24] h20 fun v25 h26 =>
aExt v25 0 fun v27 =>
aExt v25 1 fun v28 =>
aExt v25 2 fun v29 =>
aLoad true 3 v9 h26 fun v30 =>
Good prog J 34 [v30] h26 fun v31 h32 =>
aExt v31 0 fun v33 =>
aExt v31 1 fun v34 =>
aBin prog .neq 37 v22 (vint 0) fun v35 =>
cnd v35
(Hold (W prog J 145 h.length 20 (subC [1, 1, 1, 1, 1, 1, 1, 0, 1] (codeOf f20)) (RG.p (RG.p (RG.p (RG.p (RG.p (RG.p (RG.p (RG.p (RG.p (RG.p (RG.p (RG.p (RG.p (RG.p (RG.p (RG.p (RG.p (RG.p (RG.p (RG.p (RG.p (RG.p (RG.p (RG.p (RG.p (RG.p (RG.p (RG.p (RG.p (RG.p (RG.p (RG.p (RG.p (RG.p (RG.p (RG.p (RG.p (RG.p (RG.p (RG.p (RG.p (RG.p (RG.p (RG.p (RG.p (RG.p (RG.p (RG.p (RG.p (RG.p (RG.p (RG.p (RG.p (RG.p (RG.p (RG.p (RG.p (RG.p (RG.mk (regs [a0]) []) 2 (Value.bool false)) 20 a0) 21 v1) 3 v1) 22 v1) 23 v3) 24 v1) 25 v5) 4 v7) 5 v9) 26 v1) 27 v13) 28 v14) 29 v15) 6 v15) 31 v17) 32 v15) 33 v18) 34 v19) 30 v19) 35 v21) 36 v22) 7 v21) 8 v22) 38 v23) 39 v15) 40 v24) 41 v25) 37 v25) 42 v27) 43 v28) 44 v29) 9 v27) 10 v28) 11 v29) 46 v30) 47 v31) 45 v31) 48 v33) 49 v34) 12 v33) 13 v34) 50 v22) 51 v35) 52 v35) 52 (Value.bool true)) 53 undef) 54 undef) 55 (Value.bool true)) 56 (Value.bool true)) 56 (Value.bool true)) 57 undef) 58 undef) 59 undef) 60 undef) 61 undef) 62 undef) 63 (Value.bool true)) h32 (contX pl20 prog J 145 h.length 20 ct20 [1, 1, 1, 1, 1, 1, 1, 0, 1] (codeOf f20) [] (RetQ prog [.tmp 2] h.length K))))
(aBin prog .neq 37 v34 (vint 0) fun v36 =>
cnd v36
(Hold (W prog J 145 h.length 20 (subC [1, 1, 1, 1, 1, 1, 1, 0, 1] (codeOf f20)) (RG.p (RG.p (RG.p (RG.p (RG.p (RG.p (RG.p (RG.p (RG.p (RG.p (RG.p (RG.p (RG.p (RG.p (RG.p (RG.p (RG.p (RG.p (RG.p (RG.p (RG.p (RG.p (RG.p (RG.p (RG.p (RG.p (RG.p (RG.p (RG.p (RG.p (RG.p (RG.p (RG.p (RG.p (RG.p (RG.p (RG.p (RG.p (RG.p (RG.p (RG.p (RG.p (RG.p (RG.p (RG.p (RG.p (RG.p (RG.p (RG.p (RG.p (RG.p (RG.p (RG.p (RG.p (RG.p (RG.p (RG.p (RG.p (RG.mk (regs [a0]) []) 2 (Value.bool false)) 20 a0) 21 v1) 3 v1) 22 v1) 23 v3) 24 v1) 25 v5) 4 v7) 5 v9) 26 v1) 27 v13) 28 v14) 29 v15) 6 v15) 31 v17) 32 v15) 33 v18) 34 v19) 30 v19) 35 v21) 36 v22) 7 v21) 8 v22) 38 v23) 39 v15) 40 v24) 41 v25) 37 v25) 42 v27) 43 v28) 44 v29) 9 v27) 10 v28) 11 v29) 46 v30) 47 v31) 45 v31) 48 v33) 49 v34) 12 v33) 13 v34) 50 v22) 51 v35) 52 v35) 52 (Value.bool false)) 53 v34) 54 v36) 55 v36) 56 v36) 56 (Value.bool true)) 57 undef) 58 undef) 59 undef) 60 undef) 61 undef) 62 undef) 63 (Value.bool true)) h32 (contX pl20 prog J 145 h.length 20 ct20 [1, 1, 1, 1, 1, 1, 1, 0, 1] (codeOf f20) [] (RetQ prog [.tmp 2] h.length K))))
(aBin prog .neq 37 v29 (vint 0) fun v37 =>
cnd v37
(aBin prog .neq 37 v29 (vint 11) fun v38 =>
Hold (W prog J 145 h.length 20 (subC [1, 1, 1, 1, 1, 1, 1, 0, 1] (codeOf f20)) (RG.p (RG.p (RG.p (RG.p (RG.p (RG.p (RG.p (RG.p (RG.p (RG.p (RG.p (RG.p (RG.p (RG.p (RG.p (RG.p (RG.p (RG.p (RG.p (RG.p (RG.p (RG.p (RG.p (RG.p (RG.p (RG.p (RG.p (RG.p (RG.p (RG.p (RG.p (RG.p (RG.p (RG.p (RG.p (RG.p (RG.p (RG.p (RG.p (RG.p (RG.p (RG.p (RG.p (RG.p (RG.p (RG.p (RG.p (RG.p (RG.p (RG.p (RG.p (RG.p (RG.p (RG.p (RG.p (RG.p (RG.p (RG.p (RG.p (RG.mk (regs [a0]) []) 2 (Value.bool false)) 20 a0) 21 v1) 3 v1) 22 v1) 23 v3) 24 v1) 25 v5) 4 v7) 5 v9) 26 v1) 27 v13) 28 v14) 29 v15) 6 v15) 31 v17) 32 v15) 33 v18) 34 v19) 30 v19) 35 v21) 36 v22) 7 v21) 8 v22) 38 v23) 39 v15) 40 v24) 41 v25) 37 v25) 42 v27) 43 v28) 44 v29) 9 v27) 10 v28) 11 v29) 46 v30) 47 v31) 45 v31) 48 v33) 49 v34) 12 v33) 13 v34) 50 v22) 51 v35) 52 v35) 52 (Value.bool false)) 53 v34) 54 v36) 55 v36) 56 v36) 56 (Value.bool false)) 57 v29) 58 v37) 59 v37) 59 (Value.bool true)) 60 v29) 61 v38) 62 v38) 63 v38) h32 (contX pl20 prog J 145 h.length 20 ct20 [1, 1, 1, 1, 1, 1, 1, 0, 1] (codeOf f20) [] (RetQ prog [.tmp 2] h.length K))))
(Hold (W prog J 145 h.length 20 (subC [1, 1, 1, 1, 1, 1, 1, 0, 1] (codeOf f20)) (RG.p (RG.p (RG.p (RG.p (RG.p (RG.p (RG.p (RG.p (RG.p (RG.p (RG.p (RG.p (RG.p (RG.p (RG.p (RG.p (RG.p (RG.p (RG.p (RG.p (RG.p (RG.p (RG.p (RG.p (RG.p (RG.p (RG.p (RG.p (RG.p (RG.p (RG.p (RG.p (RG.p (RG.p (RG.p (RG.p (RG.p (RG.p (RG.p (RG.p (RG.p (RG.p (RG.p (RG.p (RG.p (RG.p (RG.p (RG.p (RG.p (RG.p (RG.p (RG.p (RG.p (RG.p (RG.p (RG.p (RG.p (RG.p (RG.p (RG.mk (regs [a0]) []) 2 (Value.bool false)) 20 a0) 21 v1) 3 v1) 22 v1) 23 v3) 24 v1) 25 v5) 4 v7) 5 v9) 26 v1) 27 v13) 28 v14) 29 v15) 6 v15) 31 v17) 32 v15) 33 v18) 34 v19) 30 v19) 35 v21) 36 v22) 7 v21) 8 v22) 38 v23) 39 v15) 40 v24) 41 v25) 37 v25) 42 v27) 43 v28) 44 v29) 9 v27) 10 v28) 11 v29) 46 v30) 47 v31) 45 v31) 48 v33) 49 v34) 12 v33) 13 v34) 50 v22) 51 v35) 52 v35) 52 (Value.bool false)) 53 v34) 54 v36) 55 v36) 56 v36) 56 (Value.bool false)) 57 v29) 58 v37) 59 v37) 59 (Value.bool false)) 60 undef) 61 undef) 62 (Value.bool false)) 63 (Value.bool false)) h32 (contX pl20 prog J 145 h.length 20 ct20 [1, 1, 1, 1, 1, 1, 1, 0, 1] (codeOf f20) [] (RetQ prog [.tmp 2] h.length K))))))) := top_eq pok20 ct20 (by kernel_rfl)
end
section
variable {main : Bool} {J : JT} {n0 : Nat} {h : List AObj} {K : Value → List AObj → Prop}
def pl7 : Plans := [(10, false, .take 0 (.take 1 (.take 2 (.take 3 (.take 4 (.take 5 (.take 6 (.last 7 true (.take 8 (.take 9 (.take 10 (.take 11 (.take 12 (.take 13 (.take 14 (.take 15 (.last 16 true (.take 17 (.fin))))))))))))))))))),
 (11, true, .take 0 (.take 1 (.take 2 (.take 3 (.take 4 (.take 5 (.take 6 (.take 7 (.take 8 (.take 9 (.take 10 (.take 11 (.take 12 (.take 13 (.take 14 (.fin))))))))))))))))]
def ct7 : Cuts := .bin (.go) (.bin (.go) (.bin (.go) (.bin (.go) (.bin (.go) (.bin (.go) (.bin (.bin (.go) (.un (.un (.bin (.go) (.bin (.un (.bin (.bin (.go) (.cut (.go))) (.bin (.bin (.go) (.cut (.go))) (.go)))) (.go)))))) (.go)))))))
theorem pok7 : plansOk prog pl7 (codeOf f7) = true := by kernel_rfl
theorem e7 {a0 : Value} : W prog J 74 h.length 7 (codeOf f7) (RG.mk (regs [a0]) []) h (RetQ prog [.tmp 2] h.length K) =
(Good prog J 22 [a0] h fun v1 h2 =>
Good prog J 25 [v1, (vint 8)] h2 fun v3 h4 =>
aAlloc [(vint 0), (vint 0), (vint 0)] h4 fun v5 h6 =>
aStore 3 v5 v3 h6 fun h7 =>
aLoad true 3 v5 h7 fun v8 =>
Good prog J 34 [v8] h7 fun v9 h10 =>
aExt v9 0 fun v11 =>
aExt v9 1 fun v12 =>
aBin prog .neq 37 v12 (vint 0) fun v13 =>
cnd v13
(retL h.length K [] [(Value.bool false)] h10)
(aOff v5 0 fun v14 =>
aLoad false 1 v14 h10 fun v15 =>
Good prog J 39 [v15] h10 fun v16 h17 =>
Sem J 74 h.length 7 (subC [1, 1, 1, 1, 1, 1, 0, 1, 0] (codeOf f7)) (RG.p (RG.p (RG.p (RG.p (RG.p (RG.p (RG.p (RG.p (RG.p (RG.p (RG.p (RG.p (RG.p (RG.p (RG.p (RG.p (RG.p (RG.p (RG.p (RG.p (RG.mk (regs [a0]) []) 2 (Value.bool false)) 9 a0) 10 v1) 11 v3) 3 v5) 13 v8) 14 v9) 12 v9) 15 v11) 16 v12) 4 v11) 5 v12) 17 v12) 18 v13) 19 v14) 20 v15) 21 v16) 6 v16) 7 (vint 0)) 8 (vint 0)) h17 (contX pl7 prog J 74 h.length 7 ct7 [1, 1, 1, 1, 1, 1, 0, 1, 0] (codeOf f7) [] (RetQ prog [.tmp 2] h.length K)))) := top_eq pok7 ct7 (by kernel_rfl)
def pl40 : Plans := []
def ct40 : Cuts := .bin (.go) (.bin (.bin (.go) (.un (.un (.bin (.go) (.bin (.un (.bin (.go) (.bin (.un (.un (.bin (.bin (.go) (.cut (.go))) (.go)))) (.go)))) (.go)))))) (.go))
theorem pok40 : plansOk prog pl40 (codeOf f40) = true := by kernel_rfl
theorem e40 {a0 a1 a2 : Value} : W prog J 34 h.length 40 (codeOf f40) (RG.mk (regs [a0, a1, a2]) []) h (RetQ prog [.tmp 6] h.length K) =
(Sem J 34 h.length 40 (subC [1, 0, 1, 0] (codeOf f40)) (RG.p (RG.p (RG.mk (regs [a0, a1, a2]) []) 6 (Value.bool false)) 7 (vint 0)) h (contX pl40 prog J 34 h.length 40 ct40 [1, 0, 1, 0] (codeOf f40) [] (RetQ prog [.tmp 6] h.length K))) := top_eq pok40 ct40 (by kernel_rfl)
end
end Go.Proofs.Ythnccaajpdnndaa
namespace Go.Proofs.Ythnccaajpdnndaa
open Go.Conc Go.Proofs.Try
set_option maxRecDepth 100000
theorem growB_pos {s : SkyR} : ∀ {n : Nat} {w : List UInt8} {x : Spl}, 0 < (growB s n w x).length
 | 0, w, x => Nat.zero_lt_one
 | n + 1, w, x => by
  unfold growB
  rw [List.length_append]
  have h1 := growB_pos (s := s) (n := n) (w := w ++ [100]) (x := nextX x 100)
  have h2 := growB_pos (s := s) (n := n) (w := w ++ [119]) (x := nextX x 119)
  by_cases e : nextOk s x 100 = true
  ·rw [if_pos e]
   omega
  ·have : nextOk s x 119 = true := by
    unfold nextOk at *
    by_cases h : x.1 ≠ 100
    ·rw [if_pos h] at e
     exact absurd rfl e
    ·have h := Classical.not_not.1 h
     rw [if_pos (by rw [h]; decide)]
   rw [if_pos this]
   omega
section
variable {main : Bool} {J : JT} {H : List AObj} {K : Value → List AObj → Prop} {KV : Value → Prop}
theorem neqStr {a : List UInt8} (hk : KV (.bool false)) : aBin prog .neq 9 (strV a) (strV a) KV := by
 have e : aBin prog .neq 9 (strV a) (strV a) KV = KV (.bool (!((ByteArray.mk ⟨a⟩).toList == (ByteArray.mk ⟨a⟩).toList))) := by kernel_rfl
 rw [e, beq_self_eq_true]
 exact hk
end
def SpanOf {α : Type} (g : α → Int) (l : List α) (x : Span) : Prop := (l = [] ∧ x.2.2 = false) ∨ (l ≠ [] ∧ x.2.2 = true ∧ (∀ w ∈ l, x.1 ≤ g w ∧ g w ≤ x.2.1) ∧ (∃ w ∈ l, g w = x.1) ∧ ∃ w ∈ l, g w = x.2.1)
theorem SpanOf.more {α : Type} {g : α → Int} {l : List α} {x : Span} (h : SpanOf g l x) (w : α) : SpanOf g (l ++ [w]) (widenR x (g w)) := by
 right
 refine ⟨by simp, ?_⟩
 rcases h with ⟨rfl, h⟩ | ⟨hne, ht, ha, ⟨u, hu, eu⟩, ⟨v, hv, ev⟩⟩
 ·unfold widenR
  rw [if_neg (by rw [h]; decide)]
  exact ⟨rfl, fun u hu => by
   have : u = w := by simpa using hu
   rw [this]
   exact ⟨Int.le_refl _, Int.le_refl _⟩, ⟨w, by simp, rfl⟩, ⟨w, by simp, rfl⟩⟩
 ·unfold widenR
  rw [if_pos ht]
  refine ⟨rfl, fun z hz => ?_, ?_, ?_⟩
  ·rcases List.mem_append.1 hz with hz | hz
   ·have := ha z hz
    exact ⟨by dsimp only; omega, by dsimp only; omega⟩
   ·rw [List.mem_singleton.1 hz]
    exact ⟨by dsimp only; omega, by dsimp only; omega⟩
  ·by_cases c : x.1 ≤ g w
   ·exact ⟨u, List.mem_append_left _ hu, by dsimp only; omega⟩
   ·exact ⟨w, by simp, by dsimp only; omega⟩
  ·by_cases c : g w ≤ x.2.1
   ·exact ⟨v, List.mem_append_left _ hv, by dsimp only; omega⟩
   ·exact ⟨w, by simp, by dsimp only; omega⟩
theorem dayS_get {p : Pas} {hs : List Int} {w : List UInt8} {L : List Span} {k : Nat} (hk : k < L.length) : ∀ j, (dayS p hs w j L).getD k (0, 0, false) = if k < j then widenR (L.getD k (0, 0, false)) (stdR p hs w (k + 1)).1 else L.getD k (0, 0, false)
 | 0 => by
  rw [if_neg (Nat.not_lt_zero _)]
  rfl
 | j + 1 => by
  have ih := dayS_get (p := p) (hs := hs) (w := w) hk j
  rw [dayS, List.getD_eq_getElem?_getD, List.getElem?_set]
  by_cases e : j = k
  ·subst e
   rw [if_pos rfl, if_pos (by rw [dayS_len]; exact hk), if_pos (by omega), Option.getD_some, ih, if_neg (by omega)]
  ·rw [if_neg e, ← List.getD_eq_getElem?_getD, ih]
   by_cases c : k < j
   ·rw [if_pos c, if_pos (by omega)]
   ·rw [if_neg c, if_neg (by omega)]
theorem spans_fold {p : Pas} {hs : List Int} {n : Nat} : ∀ {l l0 : List (List UInt8)} {L : List Span}, (∀ w ∈ l, w.length = n) → L.length = n → (∀ k, k < n → SpanOf (fun w => (stdR p hs w (k + 1)).1) l0 (L.getD k (0, 0, false))) →
  ∀ k, k < n → SpanOf (fun w => (stdR p hs w (k + 1)).1) (l0 ++ l) ((l.foldl (fun L w => dayS p hs w w.length L) L).getD k (0, 0, false))
 | [], l0, L, _, _, h, k, hk => by
  rw [List.append_nil]
  exact h k hk
 | w :: l, l0, L, hl, hL, h, k, hk => by
  have hw := hl w (List.mem_cons_self ..)
  have e : l0 ++ w :: l = (l0 ++ [w]) ++ l := by simp
  rw [e]
  refine spans_fold (l := l) (l0 := l0 ++ [w]) (L := dayS p hs w w.length L) (fun u hu => hl u (List.mem_cons_of_mem _ hu)) (by rw [dayS_len, hL]) (fun j hj => ?_) k hk
  rw [dayS_get (by omega), if_pos (by omega)]
  exact (h j hj).more w
theorem spans_len {p : Pas} {hs : List Int} {s : SkyR} : (spansR p hs s).length = s.days.toNat := by
 unfold spansR
 rw [spansK_len, List.length_replicate]
end Go.Proofs.Ythnccaajpdnndaa
namespace Go.Proofs.Ythnccaajpdnndaa
open Go.Conc Go.Proofs.Try
set_option maxRecDepth 100000
set_option maxHeartbeats 4000000
set_option linter.unusedVariables false
section
variable {main : Bool} {J : JT} {n0 : Nat} {h : List AObj} {K : Value → List AObj → Prop}
theorem at5 : prog.funcs[5]? = some f5 := by kernel_rfl
theorem body5 : f5.body = some (codeOf f5) := by kernel_rfl
def pl5 : Plans := [(3, false, .take 0 (.take 1 (.take 3 (.take 4 (.alt 2 true (.last 5 true (.last 6 false (.take 7 (.take 8 (.take 9 (.take 10 (.take 11 (.fin)))))))) (.last 5 true (.last 2 true (.last 6 false (.take 7 (.take 8 (.take 9 (.take 10 (.take 11 (.fin)))))))))))))),
 (10, true, .take 0 (.take 1 (.take 2 (.take 3 (.take 4 (.take 5 (.take 6 (.take 7 (.take 8 (.take 9 (.take 10 (.take 11 (.take 12 (.take 13 (.take 14 (.fin))))))))))))))))]
def ct5 : Cuts := .bin (.go) (.bin (.go) (.bin (.go) (.bin (.go) (.cut (.bin (.bin (.go) (.cut (.go))) (.bin (.go) (.bin (.bin (.go) (.un (.un (.bin (.go) (.bin (.un (.bin (.bin (.go) (.cut (.go))) (.go))) (.go)))))) (.go))))))))
theorem pok5 : plansOk prog pl5 (codeOf f5) = true := by kernel_rfl
theorem e5 {a0 : Value} : W prog J 61 h.length 5 (codeOf f5) (RG.mk (regs [a0]) []) h (RetQ prog [.tmp 2] h.length K) =
(Good prog J 22 [a0] h fun v1 h2 =>
Good prog J 24 [v1] h2 fun v3 h4 =>
Good prog J 23 [v1, (vint 1), (vint 8)] h4 fun v5 h6 =>
aAlloc [(vint 0), (vint 0), (vint 0), (vint 0), (vint 0), (vint 0)] h6 fun v7 h8 =>
aStore 6 v7 v3 h8 fun h9 =>
(∃ B, aLoad true 6 v7 h9 fun v10 =>
RdOk (some B) (ptrBlk v7) ∧ ((((List.length [(vint 0)] = 1 ∧ (8 : Nat) ≤ 1024) ∧ aMkS [(vint 0)] v5 v5 h9 fun v11 h12 =>
SameB (some B) h9 h12 ∧ (Good prog J 31 [v1, v5] h12 fun v13 h14 =>
SameB (some B) h9 h14 ∧ (Good prog J 32 [v10, v11, v13] h14 fun v15 h16 =>
aExt v15 0 fun v17 =>
aExt v15 1 fun v18 =>
Hold (W prog J 61 h.length 5 (subC [1, 1, 1, 1] (codeOf f5)) (RG.p (RG.p (RG.p (RG.p (RG.p (RG.p (RG.p (RG.p (RG.p (RG.p (RG.p (RG.p (RG.p (RG.p (RG.p (RG.p (RG.p (RG.p (RG.p (RG.p (RG.p (RG.p (RG.mk (regs [a0]) []) 2 (Value.bool false)) 10 a0) 11 v1) 3 v1) 12 v1) 13 v3) 14 v1) 15 v5) 4 v7) 5 v5) 17 v10) 18 v5) 20 v1) 21 v5) 19 v11) 22 v13) 23 v15) 16 v15) 24 v17) 25 v18) 6 v17) 7 v18) h16 (contX pl5 prog J 61 h.length 5 ct5 [1, 1, 1, 1] (codeOf f5) [] (RetQ prog [.tmp 2] h.length K))))))) ∧ (Good prog J 31 [v1, v5] h9 fun v19 h20 =>
SameB (some B) h9 h20 ∧ (((List.length [(vint 0)] = 1 ∧ (8 : Nat) ≤ 1024) ∧ aMkS [(vint 0)] v5 v5 h20 fun v21 h22 =>
SameB (some B) h9 h22 ∧ (Good prog J 32 [v10, v21, v19] h22 fun v23 h24 =>
aExt v23 0 fun v25 =>
aExt v23 1 fun v26 =>
Hold (W prog J 61 h.length 5 (subC [1, 1, 1, 1] (codeOf f5)) (RG.p (RG.p (RG.p (RG.p (RG.p (RG.p (RG.p (RG.p (RG.p (RG.p (RG.p (RG.p (RG.p (RG.p (RG.p (RG.p (RG.p (RG.p (RG.p (RG.p (RG.p (RG.p (RG.mk (regs [a0]) []) 2 (Value.bool false)) 10 a0) 11 v1) 3 v1) 12 v1) 13 v3) 14 v1) 15 v5) 4 v7) 5 v5) 17 v10) 18 v5) 20 v1) 21 v5) 22 v19) 19 v21) 23 v23) 16 v23) 24 v25) 25 v26) 6 v25) 7 v26) h24 (contX pl5 prog J 61 h.length 5 ct5 [1, 1, 1, 1] (codeOf f5) [] (RetQ prog [.tmp 2] h.length K)))))))))) := top_eq pok5 ct5 (by kernel_rfl)
theorem g5 (hJ : Closed prog main J) {a0 : Value} (hs : heapOk h → W prog J 61 h.length 5 (codeOf f5) (RG.mk (regs [a0]) []) h (RetQ prog [.tmp 2] h.length K)) : Good prog J 5 [a0] h K :=
 good_of_W hJ mixed at5 body5 (by kernel_rfl) (Nat.le_of_ble_eq_true rfl) hs
end
end Go.Proofs.Ythnccaajpdnndaa
namespace Go.Proofs.Ythnccaajpdnndaa
open Go.Conc Go.Proofs.Try
set_option maxRecDepth 100000
structure FineG (q p : Pas) : Prop where
 grass : p.grass ≤ q.grass
 bears : q.bears = p.bears
 dry : p.dry ≤ q.dry
 wet : p.wet ≤ q.wet
 stubble : q.stubble ≤ p.stubble
 sleep : q.sleep ≤ p.sleep
theorem FineG.refl {p : Pas} : FineG p p := ⟨Int.le_refl _, rfl, Int.le_refl _, Int.le_refl _, Int.le_refl _, Int.le_refl _⟩
def wetter (v w : List UInt8) : Prop := ∀ i, wetB (w.getD i 0) = true → wetB (v.getD i 0) = true
theorem wetter.refl {w : List UInt8} : wetter w w := fun _ h => h
end Go.Proofs.Ythnccaajpdnndaa
namespace Go.Proofs.Ythnccaajpdnndaa
open Go.Conc Go.Proofs.Try
set_option maxRecDepth 100000
set_option maxHeartbeats 4000000
set_option linter.unusedVariables false
section
variable {main : Bool} {J : JT} {n0 : Nat} {h : List AObj} {K : Value → List AObj → Prop}
theorem at30 : prog.funcs[30]? = some f30 := by kernel_rfl
theorem body30 : f30.body = some (codeOf f30) := by kernel_rfl
def pl30 : Plans := []
def ct30 : Cuts := .go
theorem pok30 : plansOk prog pl30 (codeOf f30) = true := by kernel_rfl
theorem e30 {a0 a1 a2 : Value} : W prog J 30 h.length 30 (codeOf f30) (RG.mk (regs [a0, a1, a2]) []) h (RetQ prog [.tmp 6] h.length K) =
(Good prog J 26 [a0, a2] h fun v1 h2 =>
Sem J 30 h.length 30 (subC [1, 1, 1, 0, 1, 0] (codeOf f30)) (RG.p (RG.p (RG.p (RG.p (RG.p (RG.p (RG.p (RG.mk (regs [a0, a1, a2]) []) 6 (Value.slice none 0 0)) 7 (Value.slice none 0 0)) 10 a0) 11 a2) 12 v1) 8 v1) 9 (vint 0)) h2 (contX pl30 prog J 30 h.length 30 ct30 [1, 1, 1, 0, 1, 0] (codeOf f30) [] (RetQ prog [.tmp 6] h.length K))) := top_eq pok30 ct30 (by kernel_rfl)
theorem g30 (hJ : Closed prog main J) {a0 a1 a2 : Value} (hs : heapOk h → W prog J 30 h.length 30 (codeOf f30) (RG.mk (regs [a0, a1, a2]) []) h (RetQ prog [.tmp 6] h.length K)) : Good prog J 30 [a0, a1, a2] h K :=
 good_of_W hJ mixed at30 body30 (by kernel_rfl) (Nat.le_of_ble_eq_true rfl) hs
theorem s30_1 {f : RG} {nx0 : RG → List AObj → Prop} : W prog J 30 n0 30 (subC [1, 1, 1, 0, 1, 0, 0] (codeOf f30)) f h (thenK nx0 (contX pl30 prog J 30 n0 30 ct30 [1, 1, 1, 0, 1, 0] (codeOf f30) [] (RetQ prog [.tmp 6] n0 K))) =
(aBin prog .lss 3 (f.r 9) (f.r 1) fun v1 =>
cnd v1
(Good prog J 26 [(f.r 0), (f.r 2)] h fun v2 h3 =>
(((3 * 1 : Nat) ≤ 16777216 ∧ (3 : Nat) ≤ 16777216 ∧ List.length [(vint 0)] = 1) ∧ aFill (zrep [(vint 0)] 3) [(0, 1, (f.r 8)), (1, 1, (vint 0)), (2, 1, v2)] fun c4 =>
aNewS 3 c4 h3 fun v5 h6 =>
Good prog J 69 [(f.r 0), (f.r 8), v5] h6 fun v7 h8 =>
(((1 * 1 : Nat) ≤ 16777216 ∧ (1 : Nat) ≤ 16777216 ∧ List.length [(vint 0)] = 1) ∧ aFill (zrep [(vint 0)] 1) [(0, 1, v7)] fun c9 =>
aNewS 1 c9 h8 fun v10 h11 =>
((List.length [(vint 0)] = 1 ∧ 0 < (1 : Nat) ∧ 0 < (8 : Nat) ∧ (8 : Nat) ≤ 1024) ∧ aApp 1 (f.r 7) v10 h11 fun v12 h13 =>
aBin prog .add 3 (f.r 9) (vint 1) fun v14 =>
nx0 (RG.p (RG.p (RG.p (RG.p (RG.p (RG.p (RG.p (RG.p (RG.p (RG.p (RG.p (RG.p (RG.p (RG.p (RG.p (RG.p (RG.p (RG.p f 13 (f.r 9)) 14 (f.r 1)) 15 v1) 18 (f.r 7)) 19 (f.r 0)) 20 (f.r 8)) 21 (f.r 8)) 22 (f.r 0)) 23 (f.r 2)) 24 v2) 25 v5) 26 v7) 27 v10) 28 v12) 7 v12) 16 (f.r 9)) 17 v14) 9 v14) h13))))
(retL n0 K f.ds [(f.r 7)] h)) := sub_eq pok30 ct30 (by kernel_rfl)
theorem l30_1 (hJ : Closed prog main J) {S : Type} (μ : S → Nat) (I : S → RG → List AObj → Prop) (hI : ∀ s f h, I s f h → heapOk h → n0 ≤ h.length → W prog J 30 n0 30 (subC [1, 1, 1, 0, 1, 0, 0] (codeOf f30)) f h (thenK (Nx n0 μ I s) (contX pl30 prog J 30 n0 30 ct30 [1, 1, 1, 0, 1, 0] (codeOf f30) [] (RetQ prog [.tmp 6] n0 K))))
 {s : S} {f : RG} (hi : Gets n0 I s f h) : Sem J 30 n0 30 (subC [1, 1, 1, 0, 1, 0] (codeOf f30)) f h (contX pl30 prog J 30 n0 30 ct30 [1, 1, 1, 0, 1, 0] (codeOf f30) [] (RetQ prog [.tmp 6] n0 K)) :=
 loop_rule hJ mixed (b := subC [1, 1, 1, 0, 1, 0, 0] (codeOf f30)) (by kernel_rfl) μ I hI hi
end
end Go.Proofs.Ythnccaajpdnndaa
namespace Go.Proofs.Ythnccaajpdnndaa
open Go.Conc Go.Proofs.Try
set_option maxRecDepth 100000
section
variable {main : Bool} {J : JT} {h H : List AObj} {K : Value → List AObj → Prop} {KV : Value → Prop} {HL : List AObj → Prop} {n0 : Nat} {ns : List Int} {k : Nat}
theorem good30 (hJ : Closed prog main J) (a : HX h H ns k) (hk : k < 400000) {D : Nat} {m : Int} (hD : D ≤ 8) (hm : 0 ≤ m ∧ m ≤ 40)
  (hK : ∀ (xs : List Int) v o H', xs.length = D → (∀ x ∈ xs, 0 ≤ x ∧ x ≤ m) → SameX [h.length] H H' → HX h H' ns (k + 20) → OwnX H' 1 (xs.map vint) D v o → (∀ i, o = some i → H.length ≤ i) → K v H') : Good prog J 30 [ptr h.length 0, vint (D : Nat), vint m] H K := by
 refine g30 hJ fun ok => ?_
 rw [e30]
 have hlt := hxLt a
 refine upX hJ a (by omega) (by omega) fun u H1 u1 u2 S1 l1 a1 => ?_
 refine l30_1 hJ (fun i : Nat => D - i) (fun i F H' => i ≤ D ∧ (∃ xs v o, xs.length = i ∧ (∀ x ∈ xs, 0 ≤ x ∧ x ≤ m) ∧ OwnX H' 1 (xs.map vint) i v o ∧ (∀ j, o = some j → H.length ≤ j) ∧ F.r 7 = v) ∧ SameX [h.length] H H' ∧ HX h H' ns (k + 1 + 2 * i) ∧ F.ds = [] ∧ F.r 0 = ptr h.length 0 ∧ F.r 1 = vint (D : Nat) ∧ F.r 2 = vint m ∧ F.r 8 = vint u ∧ F.r 9 = vint (i : Nat)) ?_ (s := 0)
  (.inl ⟨Nat.zero_le _, ⟨[], _, none, rfl, by simp, ⟨rfl, rfl, .inl ⟨rfl, rfl, rfl⟩⟩, by simp, rfl⟩, S1, a1, rfl, rfl, rfl, rfl, rfl, rfl⟩)
 rintro i F H' ⟨hi, ⟨xs, v, o, hx, hxs, O, ho, r7⟩, S, b, ds, r0, r1, r2, r8, r9⟩ okc hnc
 rw [s30_1, r0, r1, r2, r7, r8, r9, ds]
 have hS := S.1
 refine lssI (cndI (fun hl => ?_) fun hge => ?_)
 ·refine upX hJ b (by omega) (by omega) fun y H2 y1 y2 S2 l2 b2 => ⟨by decide, fillO (l := [vint u]) rfl rfl rfl (by decide) (fillO (l := [vint 0]) rfl rfl rfl (by rw [wrAt_length]; decide) (fillO (l := [vint y]) rfl rfl rfl (by rw [wrAt_length, wrAt_length]; decide) (fillI (qNew fun H3 p3 e3 S3 c3 l3 => ?_))))⟩
  have c3 : H3[p3]? = some (.cells (([u, 0, y] : List Int).map vint) true 0) := c3
  refine ofZ hJ (b2.same S3 (by simp)) (by omega) c3 (by omega) rfl (by simp) fun z H4 m4 S4 l4 b4 => ?_
  have hz : 0 ≤ z ∧ z ≤ m := by
   rcases m4 with e | e
   ·omega
   ·simp only [List.mem_cons, List.not_mem_nil, or_false] at e
    omega
  refine ⟨by decide, fillO (l := [vint z]) rfl rfl rfl (by decide) (fillI (qNew fun H5 p5 e5 S5 c5 l5 => ?_))⟩
  have S25 : SameX [h.length] H' H5 := ((S2.trans S3.weak0).trans S4).trans S5.weak0
  have T5 := S.trans S25
  have hno : ∀ j, o = some j → j ∉ [h.length] := fun j hj => by
   have := ho j hj
   simp
   omega
  refine ⟨by decide, ownX_more (ownX_keep O S25 hno) (by decide) (by omega) (e := [vint z]) ⟨_, _, rfl, ⟨rfl, rfl⟩, .inr ⟨p5, 0, rfl, .inr ⟨_, _, _, c5, rfl⟩⟩⟩ fun v' H6 p6 e6 O6 S6 => ?_⟩
  have h5 := T5.1
  refine addI (by omega) ⟨i + 1, by dsimp only; omega, .inl ⟨by omega, ⟨xs ++ [z], v', some p6, by simp [hx], ?_, by rw [List.map_append]; exact O6, fun j hj => by cases hj; omega, rfl⟩, T5.thru S6 fun y hy => .inr (ho y (by simpa using hy)), ?_, ds, r0, r1, r2, r8, by show vint _ = vint _; congr 1⟩⟩
  ·intro x hxm
   rcases List.mem_append.1 hxm with e | e
   ·exact hxs x e
   ·rw [List.mem_singleton.1 e]
    exact hz
  ·refine HX.mono (HX.same (HX.same b4 S5 (by simp)) S6 fun x hx => ?_) (by omega)
   have := ho x (by simpa using hx)
   omega
 ·have : i = D := by omega
  subst this
  refine retL_same ?_ (hK xs v o H' hx hxs S (b.mono (by omega)) O ho)
  intro x hx
  rw [List.mem_singleton.1 hx]
  exact ownU O
end
theorem endsZ_get {p : Pas} {hs : List Int} {w : List UInt8} {k i : Nat} (h : i < k) : (endsZ p hs w k)[i]? = some (stdR p hs w (i + 1)).1 := by
 unfold endsZ
 rw [List.getElem?_map, List.getElem?_range h]
 rfl
end Go.Proofs.Ythnccaajpdnndaa
namespace Go.Proofs.Ythnccaajpdnndaa
open Go.Conc Go.Proofs.Try
set_option maxRecDepth 100000
set_option maxHeartbeats 4000000
set_option linter.unusedVariables false
section
variable {main : Bool} {J : JT} {n0 : Nat} {h : List AObj} {K : Value → List AObj → Prop}
def pl9 : Plans := [(20, true, .take 0 (.take 1 (.take 2 (.take 3 (.take 4 (.take 5 (.take 6 (.take 7 (.take 8 (.fin)))))))))),
 (22, false, .take 0 (.take 1 (.take 2 (.take 3 (.take 4 (.take 5 (.take 6 (.take 7 (.take 8 (.take 9 (.take 10 (.take 11 (.take 12 (.take 13 (.take 14 (.take 15 (.take 16 (.take 17 (.last 18 true (.take 19 (.take 20 (.fin))))))))))))))))))))))]
def ct9 : Cuts := .bin (.go) (.bin (.go) (.bin (.go) (.bin (.go) (.bin (.go) (.bin (.bin (.go) (.un (.un (.bin (.go) (.bin (.un (.bin (.go) (.cut (.go)))) (.go)))))) (.bin (.go) (.bin (.go) (.bin (.go) (.bin (.go) (.bin (.bin (.go) (.cut (.go))) (.go)))))))))))
theorem pok9 : plansOk prog pl9 (codeOf f9) = true := by kernel_rfl
theorem e9 {a0 : Value} : W prog J 136 h.length 9 (codeOf f9) (RG.mk (regs [a0]) []) h (RetQ prog [.tmp 2] h.length K) =
(Good prog J 22 [a0] h fun v1 h2 =>
Good prog J 24 [v1] h2 fun v3 h4 =>
Good prog J 23 [v1, (vint 1), (vint 8)] h4 fun v5 h6 =>
aAlloc [(vint 0), (vint 0), (vint 0), (vint 0), (vint 0), (vint 0)] h6 fun v7 h8 =>
aStore 6 v7 v3 h8 fun h9 =>
Good prog J 30 [v1, v5, (vint 10)] h9 fun v10 h11 =>
Good prog J 31 [v1, v5] h11 fun v12 h13 =>
Sem J 136 h.length 9 (subC [1, 1, 1, 1, 1, 0, 1, 0] (codeOf f9)) (RG.p (RG.p (RG.p (RG.p (RG.p (RG.p (RG.p (RG.p (RG.p (RG.p (RG.p (RG.p (RG.p (RG.p (RG.p (RG.p (RG.p (RG.p (RG.p (RG.p (RG.mk (regs [a0]) []) 2 (Value.bool false)) 19 a0) 20 v1) 3 v1) 21 v1) 22 v3) 23 v1) 24 v5) 4 v7) 5 v5) 25 v1) 26 v5) 27 v10) 28 v1) 29 v5) 30 v12) 6 v10) 7 v12) 8 (Value.string { data := #[] })) 9 (vint 0)) h13 (contX pl9 prog J 136 h.length 9 ct9 [1, 1, 1, 1, 1, 0, 1, 0] (codeOf f9) [] (RetQ prog [.tmp 2] h.length K))) := top_eq pok9 ct9 (by kernel_rfl)
end
end Go.Proofs.Ythnccaajpdnndaa
namespace Go.Proofs.Ythnccaajpdnndaa
open Go.Conc Go.Proofs.Try
set_option maxRecDepth 100000
theorem daysR_mem {q : Nat → Bool} {n i : Nat} : (i : Int) ∈ daysR q n ↔ i < n ∧ q i = true := by
 unfold daysR
 rw [List.mem_map]
 constructor
 ·rintro ⟨j, hj, e⟩
  obtain ⟨h1, h2⟩ := List.mem_filter.1 hj
  have : j = i := Int.ofNat_inj.1 e
  subst this
  exact ⟨List.mem_range.1 h1, h2⟩
 ·rintro ⟨h1, h2⟩
  exact ⟨i, List.mem_filter.2 ⟨List.mem_range.2 h1, h2⟩, rfl⟩
theorem daysR_all {q : Nat → Bool} : ∀ {n : Nat} {x : Int}, x ∈ daysR q n → 0 ≤ x ∧ x < n := by
 intro n x hx
 unfold daysR at hx
 obtain ⟨j, hj, rfl⟩ := List.mem_map.1 hx
 have := List.mem_range.1 (List.mem_filter.1 hj).1
 exact ⟨Int.natCast_nonneg j, by show ((j : Nat) : Int) < n; omega⟩
theorem daysR_up {q : Nat → Bool} {n : Nat} : (daysR q n).Pairwise (· < ·) := by
 unfold daysR
 rw [List.pairwise_map]
 exact (List.pairwise_lt_range.filter _).imp fun h => Int.ofNat_lt.2 h
theorem daysR_head {q : Nat → Bool} {n : Nat} (h : 0 ≤ fstH q n) : (daysR q n)[0]? = some (fstH q n) := by
 obtain ⟨h1, h2, h3⟩ := fstH_iff h
 have hm := daysR_mem (q := q) (n := n) (i := (fstH q n).toNat)
 have hmem := hm.2 ⟨h1, h2⟩
 cases e : daysR q n with
 | nil => rw [e] at hmem; cases hmem
 | cons x l =>
  have hx : x ∈ daysR q n := by rw [e]; exact List.mem_cons_self ..
  obtain ⟨x0, xn⟩ := daysR_all hx
  obtain ⟨i, rfl⟩ := Int.eq_ofNat_of_zero_le x0
  have hi := (daysR_mem.1 hx).2
  have hge : (fstH q n).toNat ≤ i := by
   by_cases c : i < (fstH q n).toNat
   ·rw [h3 i c] at hi
    cases hi
   ·omega
  have hup := daysR_up (q := q) (n := n)
  rw [e] at hmem hup
  show some (i : Int) = _
  congr 1
  rcases List.mem_cons.1 hmem with c | c
  ·omega
  ·have := List.rel_of_pairwise_cons hup c
   omega
section
variable {main : Bool} {J : JT} {h H : List AObj} {K : Value → List AObj → Prop}
theorem good132 (hJ : Closed prog main J) {hs : List Int} {hv : Value} {d : Int} (sh : Sli H hv 1 hs.length (hs.map vint)) (hl : hs.length < 1000000) (hK : K (vint (hunE hs d)) H) : Good prog J 132 [hv, vint d] H K := by
 refine g132 hJ fun ok => ?_
 rw [e132]
 have e : hunE hs d = if (hs.length : Int) < d then 7 else if (hs.length : Int) > d then 6 else if ∀ n ∈ hs, 0 ≤ n ∧ n ≤ 40 then 0 else 1 := by
  unfold hunE cntE
  by_cases c : (hs.length : Int) < d
  ·rw [if_pos c, if_pos c, if_pos (by decide)]
  ·rw [if_neg c, if_neg c]
   by_cases c2 : (hs.length : Int) > d
   ·rw [if_pos c2, if_pos c2, if_pos (by decide)]
   ·rw [if_neg c2, if_neg c2, if_neg (by decide)]
 rw [e] at hK
 refine lenI sh (lssI (cndI (fun h1 => ?_) fun h1 => lenI sh (gtrI (cndI (fun h2 => ?_) fun h2 => ?_))))
 ·rw [if_pos h1] at hK
  exact retL_same (by simp [unk]) hK
 ·rw [if_neg h1, if_pos h2] at hK
  exact retL_same (by simp [unk]) hK
 rw [if_neg h1, if_neg h2] at hK
 refine l132_1 hJ (fun i : Nat => hs.length - i) (fun i F H' => i ≤ hs.length ∧ H' = H ∧ (∀ j, j < i → ∀ n, hs[j]? = some n → 0 ≤ n ∧ n ≤ 40) ∧ F.ds = [] ∧ F.r 0 = hv ∧ F.r 5 = vint (i : Nat)) ?_ (s := 0)
  (.inl ⟨Nat.zero_le _, rfl, fun j hj => absurd hj (Nat.not_lt_zero _), rfl, rfl, rfl⟩)
 rintro i F H' ⟨hi, rfl, hall, ds, r0, r5⟩ okc hnc
 rw [s132_1, r0, r5, ds]
 refine lenI sh (lssI (cndI (fun hlt => ?_) fun hge => ?_))
 ·have hx : hs[i]? = some hs[i] := List.getElem?_eq_getElem (by omega)
  have hm := List.getElem_mem (l := hs) (n := i) (by omega)
  generalize hs[i] = x at hx hm
  refine sliN sh hx fun q => good82 hJ (notI (cndN (fun h3 => ?_) fun h3 => ?_))
  ·rw [if_neg (fun c => h3 (c x hm))] at hK
   exact retL_same (by simp [unk]) hK
  ·refine addI (by omega) ⟨i + 1, by dsimp only; omega, .inl ⟨by omega, rfl, fun j hj n hn => ?_, ds, r0, by show vint _ = vint _; congr 1⟩⟩
   by_cases c : j = i
   ·rw [c, hx] at hn
    cases hn
    exact h3
   ·exact hall j (by omega) n hn
 ·have c : ∀ n ∈ hs, 0 ≤ n ∧ n ≤ 40 := fun n hn => by
   obtain ⟨j, hj, e⟩ := List.mem_iff_getElem.1 hn
   exact hall j (by omega) n (by rw [List.getElem?_eq_getElem hj, e])
  rw [if_pos c] at hK
  exact retL_same (by simp [unk]) hK
theorem good96 (hJ : Closed prog main J) {p : Pas} {s : SkyR} {hs : List Int} {hv : Value} (sh : Sli H hv 1 hs.length (hs.map vint)) (hl : hs.length < 1000000) (hK : ∀ H', SameX [] H H' → K (vint (ckdE p hs s)) H') : Good prog J 96 [.agg ⟨p.cells⟩, hv, .agg ⟨s.cells⟩] H K := by
 refine g96 hJ fun ok => ?_
 rw [e96]
 have e : ckdE p hs s = if pasE p ≠ 0 then pasE p else if skyE s ≠ 0 then skyE s else hunE hs s.days := by
  unfold ckdE fst2
  by_cases c : pasE p ≠ 0
  ·rw [if_pos c, if_pos c, if_pos c]
  ·rw [if_neg c, if_neg c]
 rw [e] at hK
 refine qBox (l := p.cells) rfl fun H1 p1 e1 S1 c1 l1 => qBox (l := s.cells) rfl fun H2 p2 e2 S2 c2 l2 => ?_
 have T := S1.trans S2
 refine load_part (c := p.cells) (S2.get c1 (by simp)) (by simp [Pas.cells]) rfl rfl (good37 hJ (neqI (cndI (fun h1 => ?_) fun h1 => ?_)))
 ·have := hK H2 T
  rw [if_pos h1] at this
  exact retL_same (by simp [unk]) this
 refine load_part (c := s.cells) c2 (by simp [SkyR.cells]) rfl rfl (good81 hJ (neqI (cndI (fun h2 => ?_) fun h2 => ?_)))
 ·have := hK H2 T
  rw [if_neg h1, if_pos h2] at this
  exact retL_same (by simp [unk]) this
 refine offI (ldI (v := vint s.days) c2 rfl rfl (good132 hJ (T.sli sh (by simp)) hl ?_))
 have := hK H2 T
 rw [if_neg h1, if_neg h2] at this
 exact retL_same (by simp [unk]) this
theorem good50 (hJ : Closed prog main J) {p : Pas} {s : SkyR} {hs : List Int} {hv : Value} (sh : Sli H hv 1 hs.length (hs.map vint)) (hl : hs.length < 1000000)
  (hK : ∀ H', SameX [] H H' → K (.tuple ⟨[vint (feedN p hs s), vint (ckdE p hs s)]⟩) H') : Good prog J 50 [.agg ⟨p.cells⟩, hv, .agg ⟨s.cells⟩] H K := by
 refine g50 hJ fun ok => ?_
 rw [e50]
 refine qBox (l := p.cells) rfl fun H1 p1 e1 S1 c1 l1 => qBox (l := s.cells) rfl fun H2 p2 e2 S2 c2 l2 => ?_
 have T := S1.trans S2
 have c12 := S2.get c1 (by simp)
 refine load_part (c := p.cells) c12 (by simp [Pas.cells]) rfl rfl (load_part (c := s.cells) c2 (by simp [SkyR.cells]) rfl rfl ?_)
 refine good96 hJ (T.sli sh (by simp)) hl fun H3 S3 => neqI (cndI (fun h1 => ?_) fun h1 => ?_)
 ·have := hK H3 (T.trans S3)
  unfold feedN at this
  rw [if_pos h1] at this
  exact retL_same (nu2 (by simp [unk]) (by simp [unk])) this
 have h0 : ckdE p hs s = 0 := by omega
 obtain ⟨f, g, hh, hlen⟩ := ckdE_zero h0
 have T3 := T.trans S3
 refine load_part (c := p.cells) (S3.get c12 (by simp)) (by simp [Pas.cells]) rfl rfl (load_part (c := s.cells) (S3.get c2 (by simp)) (by simp [SkyR.cells]) rfl rfl ?_)
 refine good99 hJ f g hh (T3.sli sh (by simp)) (by omega) fun H4 S4 => ext0 (ext1 ?_)
 have kk := hK H4 (T3.trans S4)
 rw [h0] at kk
 have hpos : 0 < (rainsB s).length := growB_pos
 have hfil : fedB p hs s = true ↔ ((rainsB s).filter fun w => decide (starvR p hs w < 0)).length = (rainsB s).length := by
  unfold fedB
  rw [List.all_eq_true, List.length_filter_eq_length_iff]
 have hany : (rainsB s).any (fun w => decide (starvR p hs w < 0)) = true ↔ 0 < ((rainsB s).filter fun w => decide (starvR p hs w < 0)).length := by
  rw [List.any_eq_true, List.length_pos_iff_exists_mem]
  constructor
  ·rintro ⟨w, h1, h2⟩
   exact ⟨w, List.mem_filter.2 ⟨h1, h2⟩⟩
  ·rintro ⟨w, h⟩
   exact ⟨w, (List.mem_filter.1 h).1, (List.mem_filter.1 h).2⟩
 unfold feedN at kk
 rw [if_neg (not_not_intro h0)] at kk
 generalize ((rainsB s).filter fun w => decide (starvR p hs w < 0)).length = m at hfil hany ⊢
 refine eqlI (cndI (fun h2 => ?_) fun h2 => eqlI (cndI (fun h3 => ?_) fun h3 => ?_))
 ·rw [if_neg (fun c => by have := hfil.1 c; omega), if_neg (fun c => by have := hany.1 c; omega)] at kk
  exact retL_same (nu2 (by simp [unk]) (by simp [unk])) kk
 ·rw [if_pos (hfil.2 (by omega))] at kk
  exact retL_same (nu2 (by simp [unk]) (by simp [unk])) kk
 ·rw [if_neg (fun c => by have := hfil.1 c; omega), if_pos (hany.2 (by omega))] at kk
  exact retL_same (nu2 (by simp [unk]) (by simp [unk])) kk
set_option maxHeartbeats 800000 in
theorem good52 (hJ : Closed prog main J) {p : Pas} {s : SkyR} {hs : List Int} {hv : Value} (sh : Sli H hv 1 hs.length (hs.map vint)) (hl : hs.length < 1000000)
  (hK : ∀ H', SameX [] H H' → K (.tuple ⟨[strV (wstV p hs s).1, vint (wstV p hs s).2.1, vint (wstV p hs s).2.2]⟩) H') : Good prog J 52 [.agg ⟨p.cells⟩, hv, .agg ⟨s.cells⟩] H K := by
 refine g52 hJ fun ok => ?_
 rw [e52]
 refine qBox (l := p.cells) rfl fun H1 p1 e1 S1 c1 l1 => qBox (l := s.cells) rfl fun H2 p2 e2 S2 c2 l2 => ?_
 have T := S1.trans S2
 have c12 := S2.get c1 (by simp)
 have nu : ∀ {a : List UInt8} {b c : Int}, ∀ v ∈ [strV a, vint b, vint c], v ≠ unk := fun {a b c} => nu3 (by simp [unk, strV]) (by simp [unk]) (by simp [unk])
 refine load_part (c := p.cells) c12 (by simp [Pas.cells]) rfl rfl (load_part (c := s.cells) c2 (by simp [SkyR.cells]) rfl rfl ?_)
 refine good96 hJ (T.sli sh (by simp)) hl fun H3 S3 => neqI (cndI (fun h1 => ?_) fun h1 => ?_)
 ·have := hK H3 (T.trans S3)
  unfold wstV at this
  rw [if_pos h1] at this
  exact retL_same nu this
 have h0 : ckdE p hs s = 0 := by omega
 obtain ⟨f, g, hh, hlen⟩ := ckdE_zero h0
 obtain ⟨g1, g2, g3⟩ := id g
 have T3 := T.trans S3
 have c23 := S3.get c2 (by simp)
 have c13 := S3.get c12 (by simp)
 refine offI (ldI (v := vint s.days) c23 rfl rfl (load_part (c := s.cells) c23 (by simp [SkyR.cells]) rfl rfl ?_))
 refine good91 hJ g fun H4 va oa S4 A4 hoa => ?_
 have sa := ownX_sli A4
 have T4 := T3.trans S4
 have c24 := S4.get c23 (by simp)
 have c14 := S4.get c13 (by simp)
 have hfew := rainsB_few g
 let acc : Nat → List UInt8 × Int := fun k => ((rainsB s).take k).foldl (stepV p hs) ([], -1)
 refine l52_1 hJ (fun i : Nat => (rainsB s).length - i) (fun i F H' => i ≤ (rainsB s).length ∧ SameX [] H4 H' ∧ F.ds = [] ∧ F.r 1 = hv ∧ F.r 3 = ptr p1 0 ∧ F.r 5 = ptr p2 0 ∧ F.r 12 = va ∧ F.r 11 = vint (if (acc i).2 < 0 then s.days else (acc i).2) ∧ F.r 10 = strV (acc i).1 ∧ (acc i).2 < s.days ∧ F.r 13 = vint (i : Nat)) ?_ (s := 0)
  (.inl ⟨Nat.zero_le _, SameX.refl, rfl, rfl, rfl, rfl, rfl, rfl, rfl, by show (-1 : Int) < s.days; omega, rfl⟩)
 rintro i F H' ⟨hi, S, ds, r1, r3, r5, r12, r11, r10, hbd, r13⟩ okc hnc
 rw [s52_1, r1, r3, r5, r10, r11, r12, r13, ds]
 refine lenI (S.sli sa (by simp)) (lssI (cndI (fun hl => ?_) fun hge => ?_))
 ·have hl : i < (rainsB s).length := by omega
  have hu : (rainsB s)[i]? = some (rainsB s)[i] := List.getElem?_eq_getElem hl
  have hum := List.getElem_mem hl
  generalize (rainsB s)[i] = u at hu hum
  have hul := rainsB_len hum
  have ea : acc (i + 1) = stepV p hs (acc i) u := by
   dsimp only [acc]
   rw [List.take_add_one, hu, List.foldl_append]
   rfl
  refine load_part (c := p.cells) (S.get c14 (by simp)) (by simp [Pas.cells]) rfl rfl ?_
  refine strGet rfl (S.sli sa (by simp)) hu fun pa => ?_
  refine good97 hJ f hh (S.sli (T4.sli sh (by simp)) (by simp)) (by omega) (by omega) fun H5 ev bv nv S5 O5 => ext30 (ext31 (ext32 ?_))
  obtain ⟨oa', ob', oc', _, _, O3, _⟩ := O5
  have sn := ownX_sli O3
  have T5 := S.trans S5
  have sb := starvR_bd (p := p) (hs := hs) (w := u)
  have hd0 := daysR_none (q := hungAt p hs u) (k := u.length)
  have next : ∀ {F2 : RG} {z : Bool}, (z = true → 0 ≤ starvR p hs u ∧ starvR p hs u < (if (acc i).2 < 0 then s.days else (acc i).2)) → (z = false → acc (i + 1) = acc i) → F2.ds = [] → F2.r 1 = hv → F2.r 3 = ptr p1 0 → F2.r 5 = ptr p2 0 → F2.r 12 = va → F2.r 11 = vint (if (acc i).2 < 0 then s.days else (acc i).2) → F2.r 10 = strV (acc i).1 → F2.r 13 = vint (i : Nat) → F2.r 16 = nv → F2.r 54 = .bool z →
    W prog J 68 H.length 52 (subC [1, 1, 1, 1, 0, 1, 0, 0, 1, 0, 0, 1, 1] (codeOf f52)) F2 H5 (contX pl52 prog J 68 H.length 52 ct52 [1, 1, 1, 1, 0, 1, 0, 0, 1, 0, 0, 1, 1] (codeOf f52) [Nx H.length (fun i : Nat => (rainsB s).length - i) (fun i F H' => i ≤ (rainsB s).length ∧ SameX [] H4 H' ∧ F.ds = [] ∧ F.r 1 = hv ∧ F.r 3 = ptr p1 0 ∧ F.r 5 = ptr p2 0 ∧ F.r 12 = va ∧ F.r 11 = vint (if (acc i).2 < 0 then s.days else (acc i).2) ∧ F.r 10 = strV (acc i).1 ∧ (acc i).2 < s.days ∧ F.r 13 = vint (i : Nat)) i] (RetQ prog [.tmp 6, .tmp 7, .tmp 8] H.length K)) := by
   intro F2 z hz1 hz0 ds2 q1 q3 q5 q12 q11 q10 q13 q16 q54
   rw [s52_2, q12, q13, q16, q54]
   refine cndB (fun hz => ?_) fun hz => ?_
   ·obtain ⟨k0, k1⟩ := hz1 hz
    have hg : (daysR (hungAt p hs u) u.length)[0]? = some (starvR p hs u) := daysR_head k0
    have es : acc (i + 1) = (u, starvR p hs u) := by
     have hc : (acc i).2 < 0 ∨ starvR p hs u < (acc i).2 := by
      by_cases c : (acc i).2 < 0
      ·exact .inl c
      ·rw [if_neg c] at k1
       exact .inr k1
     rw [ea]
     unfold stepV
     rw [if_pos ⟨k0, hc⟩]
    refine strGet rfl (T5.sli sa (by simp)) hu fun pb => sliN (i := 0) sn hg fun q2 => addI (by omega) ⟨i + 1, by dsimp only; omega, .inl ⟨by omega, T5, ds2, q1, q3, q5, q12, ?_, by rw [es]; rfl, by rw [es]; dsimp only; omega, by show vint _ = vint _; congr 1⟩⟩
    rw [es, if_neg (show ¬ (u, starvR p hs u).2 < 0 by show ¬ starvR p hs u < 0; omega)]
    rfl
   ·have es := hz0 hz
    exact addI (by omega) ⟨i + 1, by dsimp only; omega, .inl ⟨by omega, T5, ds2, q1, q3, q5, q12, by rw [es]; exact q11, by rw [es]; exact q10, by rw [es]; exact hbd, by show vint _ = vint _; congr 1⟩⟩
  refine lenI sn (gtrI (cndI (fun hpos => ?_) fun hz => ?_))
  ·have k0 : 0 ≤ starvR p hs u := by
    by_cases c : fstH (hungAt p hs u) u.length < 0
    ·have := hd0.2 c
     omega
    ·unfold starvR
     omega
   have hg : (daysR (hungAt p hs u) u.length)[0]? = some (starvR p hs u) := daysR_head k0
   refine sliN (i := 0) sn hg fun q2 => lssI (hold.2 (next (z := decide (starvR p hs u < (if (acc i).2 < 0 then s.days else (acc i).2))) (fun h => ⟨k0, of_decide_eq_true h⟩) (fun h => ?_) ds r1 r3 r5 r12 r11 r10 r13 rfl rfl))
   have h := of_decide_eq_false h
   rw [ea]
   unfold stepV
   rw [if_neg]
   rintro ⟨_, c | c⟩
   ·rw [if_pos c] at h
    omega
   ·rw [if_neg (by omega)] at h
    omega
  ·have k0 : starvR p hs u < 0 := hd0.1 (by omega)
   refine hold.2 (next (z := false) (fun h => by cases h) (fun _ => ?_) ds r1 r3 r5 r12 r11 r10 r13 rfl rfl)
   rw [ea]
   unfold stepV
   rw [if_neg (fun c => by omega)]
 ·have : i = (rainsB s).length := by omega
  subst this
  have ea : acc (rainsB s).length = worstR p hs s := by
   dsimp only [acc]
   rw [List.take_length]
   rfl
  rw [ea] at hbd ⊢
  have kk := hK H' (T4.trans S)
  unfold wstV at kk
  rw [if_neg (not_not_intro h0)] at kk
  refine offI (ldI (v := vint s.days) (S.get c24 (by simp)) rfl rfl ?_)
  by_cases c : (worstR p hs s).2 < 0
  ·rw [if_pos c] at kk ⊢
   exact eqlI (cndI (fun _ => retL_same nu kk) fun h => absurd rfl h)
  ·rw [if_neg c] at kk ⊢
   exact eqlI (cndI (fun h => absurd h (by omega)) fun _ => retL_same nu kk)
end
end Go.Proofs.Ythnccaajpdnndaa
namespace Go.Proofs.Ythnccaajpdnndaa
open Go.Conc Go.Proofs.Try
set_option maxRecDepth 100000
set_option maxHeartbeats 4000000
set_option linter.unusedVariables false
section
variable {main : Bool} {J : JT} {n0 : Nat} {h : List AObj} {K : Value → List AObj → Prop}
def pl8 : Plans := [(8, false, .take 0 (.take 1 (.take 3 (.take 4 (.alt 2 true (.take 6 (.last 5 true (.take 7 (.fin)))) (.last 5 true (.last 2 true (.take 6 (.take 7 (.fin)))))))))),
 (12, true, .take 0 (.take 1 (.take 2 (.take 3 (.take 4 (.take 5 (.last 6 false (.take 7 (.take 8 (.take 9 (.take 10 (.take 11 (.fin))))))))))))),
 (18, true, .take 0 (.take 1 (.take 2 (.take 3 (.take 4 (.take 5 (.take 6 (.take 7 (.take 8 (.take 9 (.take 10 (.take 11 (.take 12 (.take 13 (.take 14 (.take 15 (.take 16 (.take 17 (.take 18 (.take 19 (.take 20 (.take 21 (.fin))))))))))))))))))))))),
 (20, true, .take 0 (.take 1 (.take 2 (.take 3 (.take 4 (.take 5 (.take 6 (.take 7 (.take 8 (.take 9 (.take 10 (.take 11 (.take 12 (.take 13 (.take 14 (.take 15 (.take 16 (.take 17 (.take 18 (.take 19 (.take 20 (.take 21 (.take 22 (.take 23 (.take 24 (.take 25 (.take 26 (.take 27 (.take 28 (.take 29 (.take 30 (.take 31 (.take 32 (.take 33 (.take 34 (.take 35 (.take 36 (.last 37 false (.take 38 (.last 39 false (.fin)))))))))))))))))))))))))))))))))))))))))]
def ct8 : Cuts := .bin (.go) (.bin (.go) (.bin (.go) (.bin (.go) (.bin (.go) (.bin (.go) (.bin (.bin (.go) (.cut (.go))) (.bin (.go) (.cut (.bin (.bin (.go) (.un (.un (.bin (.go) (.bin (.un (.bin (.go) (.bin (.bin (.go) (.cut (.go))) (.bin (.go) (.un (.un (.bin (.go) (.bin (.un (.bin (.bin (.go) (.cut (.go))) (.go))) (.go))))))))) (.go)))))) (.bin (.bin (.go) (.un (.un (.bin (.go) (.bin (.un (.bin (.go) (.cut (.go)))) (.go)))))) (.go)))))))))))
theorem pok8 : plansOk prog pl8 (codeOf f8) = true := by kernel_rfl
theorem e8 {a0 : Value} : W prog J 169 h.length 8 (codeOf f8) (RG.mk (regs [a0]) []) h (RetQ prog [.tmp 2] h.length K) =
(Good prog J 22 [a0] h fun v1 h2 =>
Good prog J 24 [v1] h2 fun v3 h4 =>
Good prog J 25 [v1, (vint 7)] h4 fun v5 h6 =>
aAlloc [(vint 0), (vint 0), (vint 0), (vint 0), (vint 0), (vint 0)] h6 fun v7 h8 =>
aAlloc [(vint 0), (vint 0), (vint 0)] h8 fun v9 h10 =>
aStore 6 v7 v3 h10 fun h11 =>
aStore 3 v9 v5 h11 fun h12 =>
aOff v9 0 fun v13 =>
aLoad false 1 v13 h12 fun v14 =>
Good prog J 30 [v1, v14, (vint 9)] h12 fun v15 h16 =>
aLoad true 6 v7 h16 fun v17 =>
aLoad true 3 v9 h16 fun v18 =>
Good prog J 41 [v17, v15, v18] h16 fun v19 h20 =>
aExt v19 0 fun v21 =>
aExt v19 1 fun v22 =>
aLoad true 3 v9 h20 fun v23 =>
Good prog J 34 [v23] h20 fun v24 h25 =>
aExt v24 0 fun v26 =>
aExt v24 1 fun v27 =>
aBin prog .neq 37 v22 (vint 0) fun v28 =>
cnd v28
(Hold (W prog J 169 h.length 8 (subC [1, 1, 1, 1, 1, 1, 0, 1] (codeOf f8)) (RG.p (RG.p (RG.p (RG.p (RG.p (RG.p (RG.p (RG.p (RG.p (RG.p (RG.p (RG.p (RG.p (RG.p (RG.p (RG.p (RG.p (RG.p (RG.p (RG.p (RG.p (RG.p (RG.p (RG.p (RG.p (RG.p (RG.p (RG.p (RG.p (RG.p (RG.p (RG.p (RG.p (RG.p (RG.p (RG.p (RG.p (RG.p (RG.p (RG.p (RG.p (RG.p (RG.p (RG.p (RG.p (RG.p (RG.mk (regs [a0]) []) 2 (Value.bool false)) 18 a0) 19 v1) 3 v1) 20 v1) 21 v3) 22 v1) 23 v5) 4 v7) 5 v9) 24 v1) 25 v13) 26 v14) 27 v15) 6 v15) 29 v17) 30 v15) 31 v18) 32 v19) 28 v19) 33 v21) 34 v22) 7 v21) 8 v22) 36 v23) 37 v24) 35 v24) 38 v26) 39 v27) 9 v26) 10 v27) 40 v22) 41 v28) 42 v28) 42 (Value.bool true)) 43 undef) 44 undef) 45 (Value.bool true)) 46 (Value.bool true)) 46 (Value.bool true)) 47 undef) 48 undef) 49 undef) 50 undef) 51 undef) 52 (Value.bool true)) h25 (contX pl8 prog J 169 h.length 8 ct8 [1, 1, 1, 1, 1, 1, 0, 1] (codeOf f8) [] (RetQ prog [.tmp 2] h.length K))))
(aBin prog .neq 37 v27 (vint 0) fun v29 =>
cnd v29
(Hold (W prog J 169 h.length 8 (subC [1, 1, 1, 1, 1, 1, 0, 1] (codeOf f8)) (RG.p (RG.p (RG.p (RG.p (RG.p (RG.p (RG.p (RG.p (RG.p (RG.p (RG.p (RG.p (RG.p (RG.p (RG.p (RG.p (RG.p (RG.p (RG.p (RG.p (RG.p (RG.p (RG.p (RG.p (RG.p (RG.p (RG.p (RG.p (RG.p (RG.p (RG.p (RG.p (RG.p (RG.p (RG.p (RG.p (RG.p (RG.p (RG.p (RG.p (RG.p (RG.p (RG.p (RG.p (RG.p (RG.p (RG.mk (regs [a0]) []) 2 (Value.bool false)) 18 a0) 19 v1) 3 v1) 20 v1) 21 v3) 22 v1) 23 v5) 4 v7) 5 v9) 24 v1) 25 v13) 26 v14) 27 v15) 6 v15) 29 v17) 30 v15) 31 v18) 32 v19) 28 v19) 33 v21) 34 v22) 7 v21) 8 v22) 36 v23) 37 v24) 35 v24) 38 v26) 39 v27) 9 v26) 10 v27) 40 v22) 41 v28) 42 v28) 42 (Value.bool false)) 43 v27) 44 v29) 45 v29) 46 v29) 46 (Value.bool true)) 47 undef) 48 undef) 49 undef) 50 undef) 51 undef) 52 (Value.bool true)) h25 (contX pl8 prog J 169 h.length 8 ct8 [1, 1, 1, 1, 1, 1, 0, 1] (codeOf f8) [] (RetQ prog [.tmp 2] h.length K))))
(aLenS v21 fun v30 =>
aOff v9 0 fun v31 =>
aLoad false 1 v31 h25 fun v32 =>
aBin prog .neq 3 v30 v32 fun v33 =>
Hold (W prog J 169 h.length 8 (subC [1, 1, 1, 1, 1, 1, 0, 1] (codeOf f8)) (RG.p (RG.p (RG.p (RG.p (RG.p (RG.p (RG.p (RG.p (RG.p (RG.p (RG.p (RG.p (RG.p (RG.p (RG.p (RG.p (RG.p (RG.p (RG.p (RG.p (RG.p (RG.p (RG.p (RG.p (RG.p (RG.p (RG.p (RG.p (RG.p (RG.p (RG.p (RG.p (RG.p (RG.p (RG.p (RG.p (RG.p (RG.p (RG.p (RG.p (RG.p (RG.p (RG.p (RG.p (RG.p (RG.p (RG.mk (regs [a0]) []) 2 (Value.bool false)) 18 a0) 19 v1) 3 v1) 20 v1) 21 v3) 22 v1) 23 v5) 4 v7) 5 v9) 24 v1) 25 v13) 26 v14) 27 v15) 6 v15) 29 v17) 30 v15) 31 v18) 32 v19) 28 v19) 33 v21) 34 v22) 7 v21) 8 v22) 36 v23) 37 v24) 35 v24) 38 v26) 39 v27) 9 v26) 10 v27) 40 v22) 41 v28) 42 v28) 42 (Value.bool false)) 43 v27) 44 v29) 45 v29) 46 v29) 46 (Value.bool false)) 47 v21) 48 v30) 49 v31) 50 v32) 51 v33) 52 v33) h25 (contX pl8 prog J 169 h.length 8 ct8 [1, 1, 1, 1, 1, 1, 0, 1] (codeOf f8) [] (RetQ prog [.tmp 2] h.length K)))))) := top_eq pok8 ct8 (by kernel_rfl)
end
end Go.Proofs.Ythnccaajpdnndaa
namespace Go.Proofs.Ythnccaajpdnndaa
open Go.Conc Go.Proofs.Try
set_option maxRecDepth 100000
section
variable {H : List AObj}
theorem rngAt {vl : Value} {L : List Span} (sl : SliE H vl 2 rngC L) {k : Nat} (hk : k < L.length) {K2 : Value → Value → Value → Prop} : ((∀ q r, K2 q r (vint (L.getD k (0, 0, false)).1)) → aIdx 2 vl (vint (k : Nat)) fun q => aOff q 0 fun q2 => aLoad false 1 q2 H (K2 q q2)) ∧ ((∀ q r, K2 q r (vint (L.getD k (0, 0, false)).2.1)) → aIdx 2 vl (vint (k : Nat)) fun q => aOff q 1 fun q2 => aLoad false 1 q2 H (K2 q q2)) := by
 obtain ⟨b, oo, cs, wr, sz, hidx, hb, hos, htk, hkn⟩ := sliE_elem (s := 2) (fun _ => rfl) (by decide) sl hk
 have e : L.getD k (0, 0, false) = L[k] := by
  rw [List.getD_eq_getElem?_getD, List.getElem?_eq_getElem hk]
  rfl
 rw [e]
 generalize L[k] = x at htk
 refine ⟨fun h => hidx _ (offI (ldI (v := vint x.1) hb (part_get htk rfl) rfl (h _ _))), fun h => hidx _ (offI (ldI (v := vint x.2.1) hb (part_get htk rfl) rfl (h _ _)))⟩
end
theorem takeSet {α : Type} {y : α} : ∀ (l : List α) (k : Nat), k < l.length → (l.set k y).take (k + 1) = l.take k ++ [y]
 | [], k, h => absurd h (Nat.not_lt_zero _)
 | x :: l, 0, _ => rfl
 | x :: l, k + 1, h => by
  show x :: (l.set k y).take (k + 1) = x :: (l.take k ++ [y])
  rw [takeSet l k (by simpa using h)]
theorem setSame {α : Type} {l : List α} {k : Nat} {x : α} (h : l[k]? = some x) : l.set k x = l := by
 apply List.ext_getElem?
 intro i
 rw [List.getElem?_set]
 by_cases e : k = i
 ·subst e
  rw [if_pos rfl, if_pos (List.getElem?_eq_some_iff.1 h).1, h]
 ·rw [if_neg e]
theorem wrAt_rng (y : Span) : ∀ (L : List Span) (j : Nat), j < L.length → wrAt (L.flatMap rngC) (j * 2) (rngC y) = (L.set j y).flatMap rngC
 | [], j, h => absurd h (Nat.not_lt_zero _)
 | x :: L, 0, _ => rfl
 | x :: L, j + 1, h => by
  have e : (j + 1) * 2 = (rngC x).length + j * 2 := by
   show (j + 1) * 2 = 2 + j * 2
   omega
  rw [List.flatMap_cons, e, wrAt_right, wrAt_rng y L j (by simpa using h), List.set_cons_succ, List.flatMap_cons]
theorem rngs_len (L : List Span) : (L.flatMap rngC).length = L.length * 2 := by
 induction L with
 | nil => rfl
 | cons x L ih => rw [List.flatMap_cons, List.length_append, ih, List.length_cons]; show 2 + _ = _; omega
theorem kn_rng (L : List Span) : kn (L.flatMap rngC) = true := by
 unfold kn
 rw [List.all_eq_true]
 intro v hv
 obtain ⟨x, _, hx⟩ := List.mem_flatMap.1 hv
 simp only [rngC, List.mem_cons, List.not_mem_nil, or_false] at hx
 rcases hx with rfl | rfl <;> rfl
section
variable {main : Bool} {J : JT} {h H : List AObj} {K : Value → List AObj → Prop} {HL : List AObj → Prop}
theorem setRng {HL : Value → List AObj → Prop} {L : List Span} {v : Value} {o : Option Nat} {k : Nat} {y : Span} (O : OwnX H 2 (L.flatMap rngC) L.length v o) (hk : k < L.length)
  (hK : ∀ q H', SameX o.toList H H' → OwnX H' 2 ((L.set k y).flatMap rngC) (L.set k y).length v o → HL q H') : aIdx 2 v (vint (k : Nat)) fun q => aStore 2 q (.agg ⟨rngC y⟩) H (HL q) := by
 obtain ⟨h1, h2, ⟨h0, _⟩ | ⟨b, c, sz, rfl, rfl, hb, hc⟩⟩ := O
 ·omega
 ·refine idxI ⟨by omega, by omega⟩ ?_
  rw [Int.toNat_natCast, Nat.zero_add]
  have hl := rngs_len L
  unfold aStore
  simp only [ptr, hb]
  refine ⟨rfl, rfl, by omega, ?_⟩
  rw [show (Value.agg ⟨rngC y⟩).cells.toList = rngC y from rfl, wrAt_rng _ _ _ hk]
  refine hK _ _ (SameX.refl.set (.inl (by simp))) ?_
  rw [List.length_set]
  exact ⟨by rw [rngs_len, List.length_set], kn_rng _, .inr ⟨b, c, sz, rfl, rfl, List.getElem?_set_self (lt_of_get hb), hc⟩⟩
set_option maxHeartbeats 1000000 in
theorem good48 (hJ : Closed prog main J) {p : Pas} {s : SkyR} {hs : List Int} {hv : Value} (sh : Sli H hv 1 hs.length (hs.map vint)) (hl : hs.length < 1000000)
  (hK0 : ckdE p hs s ≠ 0 → ∀ H', SameX [] H H' → K (.tuple ⟨[.slice none 0 0, vint (ckdE p hs s)]⟩) H')
  (hK1 : ckdE p hs s = 0 → ∀ H' v, SameX [] H H' → SliE H' v 2 rngC (spansR p hs s) → K (.tuple ⟨[v, vint 0]⟩) H') : Good prog J 48 [.agg ⟨p.cells⟩, hv, .agg ⟨s.cells⟩] H K := by
 refine g48 hJ fun ok => ?_
 rw [e48]
 refine qBox (l := p.cells) rfl fun H1 p1 e1 S1 c1 l1 => qBox (l := s.cells) rfl fun H2 p2 e2 S2 c2 l2 => ?_
 have T := S1.trans S2
 have c12 := S2.get c1 (by simp)
 refine load_part (c := p.cells) c12 (by simp [Pas.cells]) rfl rfl (load_part (c := s.cells) c2 (by simp [SkyR.cells]) rfl rfl ?_)
 refine good96 hJ (T.sli sh (by simp)) hl fun H3 S3 => neqI (cndI (fun h1 => retL_same (nu2 (by simp [unk]) (by simp [unk])) (hK0 h1 H3 (T.trans S3))) fun h1 => ?_)
 have h0 : ckdE p hs s = 0 := by omega
 obtain ⟨f, g, hh, hlen⟩ := ckdE_zero h0
 obtain ⟨g1, g2, g3⟩ := id g
 have T3 := T.trans S3
 refine load_part (c := s.cells) (S3.get c2 (by simp)) (by simp [SkyR.cells]) rfl rfl ?_
 refine good91 hJ g fun H4 va oa S4 A4 hoa => ?_
 have sa := ownX_sli A4
 have T4 := T3.trans S4
 have c14 := S4.get (S3.get c12 (by simp)) (by simp)
 have hfew := rainsB_few g
 have hpos : 0 < (rainsB s).length := growB_pos
 obtain ⟨n, hn⟩ := Int.eq_ofNat_of_zero_le (by omega : (0 : Int) ≤ s.days)
 have hdn : s.days.toNat = n := by omega
 let acc : Nat → List Span := fun k => ((rainsB s).take k).foldl (fun L w => dayS p hs w w.length L) (List.replicate n (0, 0, false))
 have al : ∀ i, (acc i).length = n := fun i => by
  dsimp only [acc]
  rw [spansK_len, List.length_replicate]
 have flag : ∀ i, 1 ≤ i → ∀ k, k < n → ((acc i).getD k (0, 0, false)).2.2 = true := fun i hi k hk => by
  have := spans_fold (p := p) (hs := hs) (n := n) (l := (rainsB s).take i) (l0 := []) (L := List.replicate n (0, 0, false)) (fun w hw => by rw [rainsB_len (List.mem_of_mem_take hw), hdn]) (List.length_replicate ..) (fun j hj => .inl ⟨rfl, by
   rw [List.getD_eq_getElem?_getD, List.getElem?_replicate, if_pos hj]
   rfl⟩) k hk
  rw [List.nil_append] at this
  rcases this with ⟨e, _⟩ | ⟨_, e, _⟩
  ·have := congrArg List.length e
   rw [List.length_take, List.length_nil] at this
   omega
  ·exact e
 have accN : acc (rainsB s).length = spansR p hs s := by
  dsimp only [acc]
  rw [List.take_length, ← hdn]
  rfl
 refine l48_1 hJ (fun i : Nat => (rainsB s).length - i) (fun i F H' => i ≤ (rainsB s).length ∧ SameX [] H4 H' ∧ (∃ v o, F.r 9 = v ∧ OwnX H' 2 ((if i = 0 then [] else acc i).flatMap rngC) (if i = 0 then [] else acc i).length v o ∧ ∀ j, o = some j → H4.length ≤ j) ∧ F.ds = [] ∧ F.r 1 = hv ∧ F.r 3 = ptr p1 0 ∧ F.r 10 = va ∧ F.r 11 = vint (i : Nat)) ?_ (s := 0)
  (.inl ⟨Nat.zero_le _, SameX.refl, ⟨_, none, rfl, ⟨rfl, rfl, .inl ⟨rfl, rfl, rfl⟩⟩, by simp⟩, rfl, rfl, rfl, rfl, rfl⟩)
 rintro i F H' ⟨hi, S, ⟨v, o, r9, O, ho⟩, ds, r1, r3, r10, r11⟩ okc hnc
 rw [s48_1, r1, r3, r9, r10, r11, ds]
 refine lenI (S.sli sa (by simp)) (lssI (cndI (fun hl => ?_) fun hge => ?_))
 rotate_left
 ·have : i = (rainsB s).length := by omega
  subst this
  rw [if_neg (by omega), accN] at O
  exact retL_same (nu2 (ownU O) (by simp [unk])) (hK1 h0 H' v (T4.trans S) (ownX_sli O))
 have hl : i < (rainsB s).length := by omega
 have hu : (rainsB s)[i]? = some (rainsB s)[i] := List.getElem?_eq_getElem hl
 have hum := List.getElem_mem hl
 generalize (rainsB s)[i] = u at hu hum
 have hul : u.length = n := by rw [rainsB_len hum, hdn]
 have ea : acc (i + 1) = dayS p hs u n (acc i) := by
  dsimp only [acc]
  rw [List.take_add_one, hu, List.foldl_append]
  show dayS p hs u u.length _ = _
  rw [hul]
 refine load_part (c := p.cells) (S.get c14 (by simp)) (by simp [Pas.cells]) rfl rfl ?_
 refine strGet rfl (S.sli sa (by simp)) hu fun pa => ?_
 refine good97 hJ f hh (S.sli (T4.sli sh (by simp)) (by simp)) (by omega) (by omega) fun H5 ev bv nv S5 O5 => ext30 (ext31 (ext32 ?_))
 obtain ⟨oe, ob', oc', Oe, _, _, hoe, _, _⟩ := O5
 have hS5 := S5.1
 have hSl := S.1
 have hol := ownX_lt O
 have ends_get : ∀ k, k < n → (endsR p hs u u.length)[k]? = some (stdR p hs u (k + 1)).1 := fun k hk => endsZ_get (p := p) (hs := hs) (w := u) (k := u.length) (by omega)
 have el : (endsR p hs u u.length).length = n := by
  have := endsZ_len (p := p) (heads := hs) (w := u) (k := u.length)
  rw [← hul]
  exact this
 let inn : Nat → List Span := fun k => if i = 0 then (dayS p hs u k (acc i)).take k else dayS p hs u k (acc i)
 refine l48_2 hJ (fun k : Nat => n - k) (fun k F H2 => k ≤ n ∧ SameX [] H4 H2 ∧ (∃ v o, F.r 9 = v ∧ OwnX H2 2 ((inn k).flatMap rngC) (inn k).length v o ∧ (∀ j, o = some j → H4.length ≤ j) ∧ ∀ j, oe = some j → o ≠ some j) ∧ OwnX H2 1 ((endsR p hs u u.length).map vint) (endsR p hs u u.length).length ev oe ∧ F.ds = [] ∧ F.r 1 = hv ∧ F.r 3 = ptr p1 0 ∧ F.r 10 = va ∧ F.r 11 = vint (i : Nat) ∧ F.r 12 = ev ∧ F.r 15 = vint (k : Nat)) ?_ (s := 0)
  (.inl ⟨Nat.zero_le _, S.trans S5, ⟨v, o, r9, ?_, ho, fun j hj e => by have := (hoe j hj).1; have := hol j e; omega⟩, Oe, ds, r1, r3, r10, r11, rfl, rfl⟩)
 rotate_left
 ·have e0 : inn 0 = if i = 0 then [] else acc i := by
   dsimp only [inn]
   by_cases c : i = 0
   ·rw [if_pos c, if_pos c]
    rfl
   ·rw [if_neg c, if_neg c]
    rfl
  rw [e0]
  exact ownX_keep O S5 (by simp)
 clear ds r1 r3 r9 r10 r11
 rintro k F H2 ⟨hk, S2', ⟨v2, o2, r9, O2, ho2, hoo⟩, Oe2, ds, r1, r3, r10, r11, r12, r15⟩ okc2 hnc2
 rw [s48_2, r9, r11, r12, r15]
 have se := ownX_sli Oe2
 refine lenI se (lssI (cndI (fun hlt => ?_) fun hge => ?_))
 rotate_left
 ·have : k = n := by omega
  subst this
  refine addI (by omega) ⟨i + 1, by dsimp only; omega, .inl ⟨by omega, S2', ⟨v2, o2, r9, ?_, ho2⟩, ds, r1, r3, r10, by show vint _ = vint _; congr 1⟩⟩
  have e0 : inn k = if i + 1 = 0 then [] else acc (i + 1) := by
   dsimp only [inn]
   rw [show (if i + 1 = 0 then ([] : List Span) else acc (i + 1)) = acc (i + 1) from if_neg (by omega), ea]
   by_cases c : i = 0
   ·rw [if_pos c]
    exact List.take_of_length_le (by rw [dayS_len, al]; exact Nat.le_refl _)
   ·rw [if_neg c]
  rw [← e0]
  exact O2
 have hkn : k < n := by omega
 have he := ends_get k hkn
 have dk : (dayS p hs u k (acc i)).getD k (0, 0, false) = (acc i).getD k (0, 0, false) := by
  rw [dayS_get (by rw [al]; exact hkn), if_neg (Nat.lt_irrefl _)]
 generalize hE : (stdR p hs u (k + 1)).1 = e at he
 have dS : dayS p hs u (k + 1) (acc i) = (dayS p hs u k (acc i)).set k (widenR ((acc i).getD k (0, 0, false)) e) := by
  rw [dayS, dk, hE]
 have join : ∀ {F2 : RG} {H6 : List AObj} {L : List Span} {v3 : Value} {o3 : Option Nat}, SameX [] H4 H6 → k < L.length → (L.getD k (0, 0, false)).2.2 = true → L.set k (widenR (L.getD k (0, 0, false)) e) = inn (k + 1) → OwnX H6 2 (L.flatMap rngC) L.length v3 o3 → (∀ j, o3 = some j → H4.length ≤ j) → (∀ j, oe = some j → o3 ≠ some j) → OwnX H6 1 ((endsR p hs u u.length).map vint) (endsR p hs u u.length).length ev oe → F2.ds = [] → F2.r 1 = hv → F2.r 3 = ptr p1 0 → F2.r 9 = v3 → F2.r 10 = va → F2.r 11 = vint (i : Nat) → F2.r 12 = ev → F2.r 15 = vint (k : Nat) →
   W prog J 87 H.length 48 (subC [1, 1, 1, 1, 0, 1, 0, 0, 1, 0, 0, 1, 1, 0, 0, 1, 0, 0, 1] (codeOf f48)) F2 H6 (contX pl48 prog J 87 H.length 48 ct48 [1, 1, 1, 1, 0, 1, 0, 0, 1, 0, 0, 1, 1, 0, 0, 1, 0, 0, 1] (codeOf f48) [Nx H.length (fun i : Nat => (rainsB s).length - i) (fun i F H' => i ≤ (rainsB s).length ∧ SameX [] H4 H' ∧ (∃ v o, F.r 9 = v ∧ OwnX H' 2 ((if i = 0 then [] else acc i).flatMap rngC) (if i = 0 then [] else acc i).length v o ∧ ∀ j, o = some j → H4.length ≤ j) ∧ F.ds = [] ∧ F.r 1 = hv ∧ F.r 3 = ptr p1 0 ∧ F.r 10 = va ∧ F.r 11 = vint (i : Nat)) i, Nx H.length (fun k : Nat => n - k) (fun k F H2 => k ≤ n ∧ SameX [] H4 H2 ∧ (∃ v o, F.r 9 = v ∧ OwnX H2 2 ((inn k).flatMap rngC) (inn k).length v o ∧ (∀ j, o = some j → H4.length ≤ j) ∧ ∀ j, oe = some j → o ≠ some j) ∧ OwnX H2 1 ((endsR p hs u u.length).map vint) (endsR p hs u u.length).length ev oe ∧ F.ds = [] ∧ F.r 1 = hv ∧ F.r 3 = ptr p1 0 ∧ F.r 10 = va ∧ F.r 11 = vint (i : Nat) ∧ F.r 12 = ev ∧ F.r 15 = vint (k : Nat)) k] (RetQ prog [.tmp 6, .tmp 7] H.length K)) := by
  intro F2 H6 L v3 o3 SH hkL hfl hset O3 ho3 hoo3 Oe3 ds2 q1 q3 q9 q10 q11 q12 q15
  rw [s48_3, q9, q12, q15]
  have se3 := ownX_sli Oe3
  have sL : SliE H6 v3 2 rngC L := ownX_sli O3
  refine (rngAt sL hkL).1 fun t1 t2 => sliN se3 he fun t3 => minI ((rngAt sL hkL).2 fun t4 t5 => sliN se3 he fun t6 => maxI ?_)
  refine fillO (l := [vint (min (L.getD k (0, 0, false)).1 e)]) rfl rfl rfl (by decide) (fillO (l := [vint (max (L.getD k (0, 0, false)).2.1 e)]) rfl rfl rfl (by rw [wrAt_length]; decide) (fillI ?_))
  have ew : rngC (widenR (L.getD k (0, 0, false)) e) = [vint (min (L.getD k (0, 0, false)).1 e), vint (max (L.getD k (0, 0, false)).2.1 e)] := by
   unfold widenR
   rw [if_pos hfl]
   rfl
  show aIdx 2 v3 (vint (k : Nat)) fun v14 => aStore 2 v14 (.agg ⟨[vint (min (L.getD k (0, 0, false)).1 e), vint (max (L.getD k (0, 0, false)).2.1 e)]⟩) H6 _
  rw [← ew]
  refine setRng O3 hkL fun q7 H7 S7 O7 => ?_
  rw [hset] at O7
  refine addI (by omega) ⟨k + 1, by dsimp only; omega, .inl ⟨by omega, SH.thru S7 (fun y hy => .inr (ho3 y (by simpa using hy))), ⟨v3, o3, q9, O7, ho3, hoo3⟩, ownX_keep Oe3 S7 (fun j hj hm => hoo3 j hj (by simpa using hm)), ds2, q1, q3, q10, q11, q12, by show vint _ = vint _; congr 1⟩⟩
 by_cases c0 : i = 0
 ·subst c0
  refine eqlI (cndI (fun _ => ?_) fun h => absurd rfl h)
  obtain ⟨h1, h2, ⟨hn0, _⟩ | ⟨be, ce, sze, rfl, rfl, hbe, hce⟩⟩ := id Oe2
  ·omega
  have le : ∀ {K2 : Value → Value → Prop}, (∀ p, K2 (ptr be p) (vint e)) → aIdx 1 (.slice (some ⟨be, 0, none⟩) (endsR p hs u u.length).length ce) (vint (k : Nat)) fun p => aLoad false 1 p H2 (K2 p) := fun {K2} hk2 => idxI ⟨by omega, by omega⟩ (ldI (v := vint e) hbe (by rw [Int.toNat_natCast, Nat.mul_one, Nat.zero_add, List.getElem?_map, he]; rfl) rfl (hk2 _))
  have bl := lt_of_get hbe
  refine ⟨[be], le fun t1 => ⟨by simp [RdOk, ptr, ptrBlk], le fun t2 => ⟨by simp [RdOk, ptr, ptrBlk], ?_⟩⟩⟩
  refine fillO (l := [vint e]) rfl rfl rfl (by decide) (fillO (l := [vint e]) rfl rfl rfl (by rw [wrAt_length]; decide) (fillI ⟨by decide, ?_⟩))
  refine fillO (l := rngC (e, e, true)) rfl rfl rfl (by decide) (fillI (qNew fun H7 p7 e7 S7 c7 l7 => ⟨sbOne S7 bl (by simp), by decide, ?_⟩))
  have c7 : H7[p7]? = some (.cells (rngC (e, e, true)) true 0) := c7
  have hin : inn k = (dayS p hs u k (acc 0)).take k := rfl
  have hil : (inn k).length = k := by
   rw [hin, List.length_take, dayS_len, al]
   omega
  have bo : be ∉ o2.toList := fun hm => hoo be rfl (by simpa using hm)
  refine ownX_more (ownX_keep O2 S7 (by simp)) (by decide) (by omega) (e := rngC (e, e, true)) ⟨_, _, rfl, ⟨rfl, rfl⟩, .inr ⟨p7, 0, rfl, .inr ⟨_, _, _, c7, rfl⟩⟩⟩ fun v' H8 p8 e8 O8 S8 => ⟨?_, hold.2 ?_⟩
  ·exact sbOne ((S7.weak0 (Y := o2.toList)).trans S8) bl bo
  have hS7 := S7.1
  have hS2 := S2'.1
  have O8' : OwnX H8 2 ((inn k ++ [(e, e, true)]).flatMap rngC) (inn k ++ [(e, e, true)]).length v' (some p8) := by
   rw [List.flatMap_append, List.length_append]
   exact O8
  have gk : (inn k ++ [(e, e, true)])[k]? = some (e, e, true) := by
   rw [List.getElem?_append_right (by omega), hil, Nat.sub_self]
   rfl
  have gd : (inn k ++ [(e, e, true)]).getD k (0, 0, false) = (e, e, true) := by
   rw [List.getD_eq_getElem?_getD, gk]
   rfl
  have we : widenR (e, e, true) e = (e, e, true) := by simp [widenR]
  refine join ((S2'.trans S7).thru S8 (fun y hy => .inr (ho2 y (by simpa using hy)))) (by rw [List.length_append, hil]; simp) (by rw [gd]) ?_ O8' (fun j hj => by cases hj; omega) (fun j hj => by cases hj; simp; omega) (ownX_keep (ownX_keep Oe2 S7 (by simp)) S8 (fun j hj => by cases hj; exact bo)) ds r1 r3 rfl r10 r11 r12 r15
  rw [gd, we, setSame gk]
  show inn k ++ _ = (dayS p hs u (k + 1) (acc 0)).take (k + 1)
  have za : (acc 0).getD k (0, 0, false) = (0, 0, false) := by
   show (List.replicate n ((0, 0, false) : Span)).getD k (0, 0, false) = _
   rw [List.getD_eq_getElem?_getD, List.getElem?_replicate, if_pos hkn]
   rfl
  rw [dS, za, takeSet _ _ (by rw [dayS_len, al]; exact hkn)]
  rfl
 ·have hin : inn k = dayS p hs u k (acc i) := if_neg c0
  have hin2 : inn (k + 1) = dayS p hs u (k + 1) (acc i) := if_neg c0
  refine eqlI (cndI (fun h => absurd h (by omega)) fun _ => hold.2 ?_)
  refine join S2' (by rw [hin, dayS_len, al]; exact hkn) (by rw [hin, dk]; exact flag i (by omega) k hkn) (by rw [hin, hin2, dS, dk]) O2 ho2 hoo Oe2 ds r1 r3 r9 r10 r11 r12 r15
end
def stdL (p : Pas) (hs : List Int) (s : SkyR) : List Span := if ckdE p hs s = 0 then spansR p hs s else []
theorem stdL_few {p : Pas} {hs : List Int} {s : SkyR} : (stdL p hs s).length < 1000000 := by
 unfold stdL
 split
 ·rename_i h
  have g := (ckdE_zero h).2.1
  have := g.1
  rw [spans_len]
  omega
 ·decide
structure Mas (F : RG) (pp ph ps i : Nat) : Prop where
 ds : F.ds = []
 r12 : F.r 12 = .slice (some ⟨pp, 0, none⟩) 3 3
 r13 : F.r 13 = .slice (some ⟨ph, 0, none⟩) 3 3
 r14 : F.r 14 = .slice (some ⟨ps, 0, none⟩) 3 3
 r15 : F.r 15 = vint (i : Nat)
structure Las (H : List AObj) (pp ph ps i : Nat) (x : Pas) (t : SkyR) (v : Value) (y : List Int) : Prop where
 x : ∀ {K2 : Value → Value → Prop}, (∀ q, K2 q (.agg ⟨x.cells⟩)) → aIdx 6 (.slice (some ⟨pp, 0, none⟩) 3 3) (vint (i : Nat)) fun q => aLoad true 6 q H (K2 q)
 t : ∀ {K2 : Value → Value → Prop}, (∀ q, K2 q (.agg ⟨t.cells⟩)) → aIdx 3 (.slice (some ⟨ps, 0, none⟩) 3 3) (vint (i : Nat)) fun q => aLoad true 3 q H (K2 q)
 w : ∀ {K2 : Value → Value → Prop}, (∀ q, K2 q v) → aIdx 1 (.slice (some ⟨ph, 0, none⟩) 3 3) (vint (i : Nat)) fun q => aLoad false 1 q H (K2 q)
 sl : Sli H v 1 y.length (y.map vint)
 l : y.length < 1000
section
variable {main : Bool} {J : JT} {n0 : Nat} {h H : List AObj} {K : Value → List AObj → Prop}
theorem sli_nilR : SliE H (.slice none 0 0) 2 rngC [] := ⟨none, 0, rfl, ⟨rfl, rfl⟩, .inl ⟨rfl, rfl⟩⟩
theorem sdsOwn (hJ : Closed prog main J) {p : Pas} {s : SkyR} {hs : List Int} {hv : Value} (sh : Sli H hv 1 hs.length (hs.map vint)) (hl : hs.length < 1000000)
  (hK : ∀ H' v, SameX [] H H' → SliE H' v 2 rngC (stdL p hs s) → K (.tuple ⟨[v, vint (ckdE p hs s)]⟩) H') : Good prog J 41 [.agg ⟨p.cells⟩, hv, .agg ⟨s.cells⟩] H K := by
 refine good41 hJ sh hl (fun h0 H' S => hK H' _ S ?_) fun h0 H' v S sv => ?_
 ·unfold stdL
  rw [if_neg h0]
  exact sli_nilR
 ·have := hK H' v S (by
   unfold stdL
   rw [if_pos h0]
   show Sli H' v 2 (spansR p hs s).length _
   rw [spans_len]
   exact sv)
  rw [h0] at this
  exact this
theorem sdsRef (hJ : Closed prog main J) {p : Pas} {s : SkyR} {hs : List Int} {hv : Value} (sh : Sli H hv 1 hs.length (hs.map vint)) (hl : hs.length < 1000000)
  (hK : ∀ H' v, SameX [] H H' → SliE H' v 2 rngC (stdL p hs s) → K (.tuple ⟨[v, vint (ckdE p hs s)]⟩) H') : Good prog J 48 [.agg ⟨p.cells⟩, hv, .agg ⟨s.cells⟩] H K := by
 refine good48 hJ sh hl (fun h0 H' S => hK H' _ S ?_) fun h0 H' v S sv => ?_
 ·unfold stdL
  rw [if_neg h0]
  exact sli_nilR
 ·have := hK H' v S (by
   unfold stdL
   rw [if_pos h0]
   exact sv)
  rw [h0] at this
  exact this
variable {F : RG} {nx0 : RG → List AObj → Prop} {pp ph ps i : Nat} {x : Pas} {t : SkyR} {v own : Value} {y : List Int}
theorem as5 (M : Mas F pp ph ps i) (hi : i < 1000) (r198 : F.r 198 = .bool false) (hn : ∀ F', Mas F' pp ph ps (i + 1) → nx0 F' H) :
  W prog J 200 n0 11 (subC [1, 1, 1, 1, 1, 0, 1, 0, 0, 1, 0, 0, 1, 1, 1, 1, 1, 1, 1, 1] (codeOf f11)) F H (contX pl11 prog J 200 n0 11 ct11 [1, 1, 1, 1, 1, 0, 1, 0, 0, 1, 0, 0, 1, 1, 1, 1, 1, 1, 1, 1] (codeOf f11) [nx0] (RetQ prog [.tmp 8] n0 K)) := by
 rw [s11_7, M.r15, r198]
 exact cnd_false.2 (addI (by omega) (hn _ ⟨M.ds, M.r12, M.r13, M.r14, by show vint _ = vint _; congr 1⟩))
theorem as4 (hJ : Closed prog main J) {va vb : Value} {e n e2 d k : Int} {w : List UInt8} {L : List Span} (M : Mas F pp ph ps i) (A : Las H pp ph ps i x t v y) (hi : i < 1000) (so : Sli H own 1 y.length (y.map vint)) (sa : SliE H va 2 rngC L) (sb : SliE H vb 2 rngC L) (hL : L.length < 1000000) (r16 : F.r 16 = own) (r17 : F.r 17 = va) (r18 : F.r 18 = vint e) (r19 : F.r 19 = vb) (r20 : F.r 20 = vint e) (r21 : F.r 21 = vint n) (r22 : F.r 22 = vint e2) (r23 : F.r 23 = vint n) (r24 : F.r 24 = vint e2) (r25 : F.r 25 = strV w) (r26 : F.r 26 = vint d) (r27 : F.r 27 = vint k) (r28 : F.r 28 = strV w) (r29 : F.r 29 = vint d) (r30 : F.r 30 = vint k) (hn : ∀ F', Mas F' pp ph ps (i + 1) → nx0 F' H) :
  W prog J 200 n0 11 (subC [1, 1, 1, 1, 1, 0, 1, 0, 0, 1, 0, 0, 1, 1, 1, 1, 1, 1, 1] (codeOf f11)) F H (contX pl11 prog J 200 n0 11 ct11 [1, 1, 1, 1, 1, 0, 1, 0, 0, 1, 0, 0, 1, 1, 1, 1, 1, 1, 1] (codeOf f11) [nx0] (RetQ prog [.tmp 8] n0 K)) := by
 rw [s11_6, M.r13, M.r15, r16, r17, r18, r19, r20, r21, r22, r23, r24, r25, r26, r27, r28, r29, r30]
 have al := A.l
 refine neqI (cndI (fun h => absurd rfl h) fun _ => neqI (cndI (fun h => absurd rfl h) fun _ => neqI (cndI (fun h => absurd rfl h) fun _ => neqStr (cnd_false.2 (neqI (cndI (fun h => absurd rfl h) fun _ => neqI (cndI (fun h => absurd rfl h) fun _ => good53 hJ sa sb hL (notI (cnd_false.2 (A.w fun q => ?_))))))))))
 refine good29 hJ so A.sl (by omega) (notI (hold.2 (as5 ⟨M.ds, M.r12, M.r13, M.r14, M.r15⟩ hi ?_ hn)))
 show Value.bool (!decide (y = y)) = .bool false
 rw [decide_eq_true rfl]
 rfl
theorem Las.keep {H' : List AObj} (A : Las H pp ph ps i x t v y) (S : SameX [] H H') (hx : ∀ {K2 : Value → Value → Prop}, (∀ q, K2 q (.agg ⟨x.cells⟩)) → aIdx 6 (.slice (some ⟨pp, 0, none⟩) 3 3) (vint (i : Nat)) fun q => aLoad true 6 q H' (K2 q)) (ht : ∀ {K2 : Value → Value → Prop}, (∀ q, K2 q (.agg ⟨t.cells⟩)) → aIdx 3 (.slice (some ⟨ps, 0, none⟩) 3 3) (vint (i : Nat)) fun q => aLoad true 3 q H' (K2 q)) (hv : ∀ {K2 : Value → Value → Prop}, (∀ q, K2 q v) → aIdx 1 (.slice (some ⟨ph, 0, none⟩) 3 3) (vint (i : Nat)) fun q => aLoad false 1 q H' (K2 q)) : Las H' pp ph ps i x t v y := ⟨hx, ht, hv, S.sli A.sl (by simp), A.l⟩
theorem as3 (hJ : Closed prog main J) {va vb : Value} {e : Int} {L : List Span} (M : Mas F pp ph ps i) (A : ∀ H', SameX [] H H' → Las H' pp ph ps i x t v y) (hi : i < 1000) (so : Sli H own 1 y.length (y.map vint)) (sa : SliE H va 2 rngC L) (sb : SliE H vb 2 rngC L) (hL : L.length < 1000000) (r16 : F.r 16 = own) (r17 : F.r 17 = va) (r18 : F.r 18 = vint e) (r19 : F.r 19 = vb) (r20 : F.r 20 = vint e) (r21 : F.r 21 = vint (feedN x y t)) (r22 : F.r 22 = vint (ckdE x y t)) (hn : ∀ F' H', SameX [] H H' → Mas F' pp ph ps (i + 1) → nx0 F' H') :
  W prog J 200 n0 11 (subC [1, 1, 1, 1, 1, 0, 1, 0, 0, 1, 0, 0, 1, 1, 1, 1] (codeOf f11)) F H (contX pl11 prog J 200 n0 11 ct11 [1, 1, 1, 1, 1, 0, 1, 0, 0, 1, 0, 0, 1, 1, 1, 1] (codeOf f11) [nx0] (RetQ prog [.tmp 8] n0 K)) := by
 rw [s11_5, M.r12, M.r13, M.r14, M.r15, r16]
 have A0 := A H SameX.refl
 have al := A0.l
 refine A0.x fun q1 => A0.w fun q2 => A0.t fun q3 => good50 hJ (hs := y) A0.sl (by omega) fun H1 S1 => ext0 (ext1 ?_)
 have A1 := A H1 S1
 refine A1.x fun q4 => A1.t fun q5 => good51 hJ (hs := y) (S1.sli so (by simp)) (by omega) fun H2 S2 => ext30 (ext31 (ext32 ?_))
 have S12 := S1.trans S2
 have A2 := A H2 S12
 refine A2.x fun q6 => A2.w fun q7 => A2.t fun q8 => good52 hJ (hs := y) A2.sl (by omega) fun H3 S3 => ext30 (ext31 (ext32 (hold.2 ?_)))
 have S13 := S12.trans S3
 exact as4 hJ ⟨M.ds, M.r12, M.r13, M.r14, M.r15⟩ (A H3 S13) hi (S13.sli so (by simp)) (S13.sli sa (by simp)) (S13.sli sb (by simp)) hL r16 r17 r18 r19 r20 r21 r22 rfl rfl rfl rfl rfl rfl rfl rfl (hn := fun F' M' => hn F' H3 S13 M')
theorem as2 (hJ : Closed prog main J) {va : Value} (M : Mas F pp ph ps i) (A : ∀ H', SameX [] H H' → Las H' pp ph ps i x t v y) (hi : i < 1000) (so : Sli H own 1 y.length (y.map vint)) (sa : SliE H va 2 rngC (stdL x y t)) (r16 : F.r 16 = own) (r17 : F.r 17 = va) (r18 : F.r 18 = vint (ckdE x y t)) (hn : ∀ F' H', SameX [] H H' → Mas F' pp ph ps (i + 1) → nx0 F' H') :
  W prog J 200 n0 11 (subC [1, 1, 1, 1, 1, 0, 1, 0, 0, 1, 0, 0, 1, 1] (codeOf f11)) F H (contX pl11 prog J 200 n0 11 ct11 [1, 1, 1, 1, 1, 0, 1, 0, 0, 1, 0, 0, 1, 1] (codeOf f11) [nx0] (RetQ prog [.tmp 8] n0 K)) := by
 rw [s11_4, M.r12, M.r13, M.r14, M.r15, r16]
 have A0 := A H SameX.refl
 have al := A0.l
 refine A0.x fun q1 => A0.w fun q2 => A0.t fun q3 => sdsRef hJ (hs := y) A0.sl (by omega) fun H1 vb S1 sb => ext0 (ext1 ?_)
 have A1 := A H1 S1
 refine A1.x fun q4 => A1.t fun q5 => good49 hJ (hs := y) (S1.sli so (by simp)) (by omega) fun H2 S2 => ext0 (ext1 (hold.2 ?_))
 have S12 := S1.trans S2
 exact as3 hJ ⟨M.ds, M.r12, M.r13, M.r14, M.r15⟩ (fun H6 S6 => A H6 (S12.trans S6)) hi (S12.sli so (by simp)) (S12.sli sa (by simp)) (S2.sli sb (by simp)) stdL_few r16 r17 r18 rfl rfl rfl rfl fun F' H6 S6 M' => hn F' H6 (S12.trans S6) M'
end
section
variable {W0 : World} {Post : Value → World → Prop} {h : List AObj} {K : Value → List AObj → Prop}
set_option maxHeartbeats 2000000 in
theorem walk11 {p : Pas} {s : SkyR} {hv nv : Value} {ys ns : List Int} (sy : Sli h hv 1 ys.length (ys.map vint)) (hly : ys.length < 4611686018427387904) (sn : Sli h nv 1 ns.length (ns.map vint)) (hln : ns.length < 4611686018427387904) (hK : ∀ H', K (.bool true) H') :
  W prog (J2 prog W0 Post) 200 h.length 11 (codeOf f11) (RG.mk (regs [.agg ⟨p.cells⟩, hv, .agg ⟨s.cells⟩, nv]) []) h (RetQ prog [.tmp 8] h.length K) := by
 have hJ := J2.closed prog W0 Post
 rw [e11]
 refine qBox (l := p.cells) rfl fun H1 p1 e1 S1 c1 l1 => qBox (l := s.cells) rfl fun H2 p2 e2 S2 c2 l2 => ?_
 have S12 := S1.trans S2
 refine lenI (S12.sli sy (by simp)) (gtrI (cndI (fun _ => good21 fun H13 _ => retL_same (by simp [unk]) (hK H13)) fun hle => ?_))
 have vh := sliValZ sy
 refine newX hJ (S12.sli sn (by simp)) hln fun H3 a3 => ?_
 have S3 : SameX [] H2 H3 := by
  obtain ⟨nv', k', s', rest, rfl, _⟩ := a3
  exact ⟨by rw [hf_len]; omega, fun i hi _ => by unfold HF; rw [List.getElem?_append_left hi]⟩
 refine good24 hJ a3 (by omega) fun q H4 fq _ S4 a4 => good25 hJ a4 (by omega) (by decide) fun t H5 gt ht7 S5 a5 => ?_
 obtain ⟨g1, g2, g3⟩ := id gt
 have l5 := hxLt a5
 have l2h := S12.1
 refine qAl fun H6 p5 e6 S6 c6 l6 => qAl fun H7 p6 e7 S7 c7 l7 => ?_
 refine qStA (c := q.cells) (S7.get c6 (by simp)) rfl rfl rfl fun H8 S8 c8 l8 => qStA (c := t.cells) (S8.get c7 (by simp; omega)) rfl rfl rfl fun H9 S9 c9 l9 => ?_
 have T59 : SameX [] H5 H9 := ((S6.trans S7).thru S8 (by simp; omega)).thru S9 (by simp; omega)
 have T29 : SameX [H2.length] H2 H9 := ((S3.weak0.trans S4).trans S5).trans T59.weak0
 have a9 := HX.same a5 T59 (by simp)
 have k1 := T29.get (S2.get c1 (by simp)) (by have := lt_of_get (S2.get c1 (by simp)); simp; omega)
 have k2 := T29.get c2 (by have := lt_of_get c2; simp; omega)
 have k5 := S9.get c8 (by simp; omega)
 have k6 := c9
 have b1 := lt_of_get k1
 have b2 := lt_of_get k2
 have b5 := lt_of_get k5
 have b6 := lt_of_get k6
 have i1 := lt_of_get (S2.get c1 (by simp))
 have i2 := lt_of_get c2
 have hh9 : SameX [] h H9 := S12.thru T29 (by simp; omega)
 obtain ⟨n, hn⟩ := Int.eq_ofNat_of_zero_le (by omega : (0 : Int) ≤ t.days)
 have sb : ∀ {H' : List AObj}, SameX [H2.length] H9 H' → SameB (some [p1, p5, p6, p2]) H9 H' := fun S b hb => by
  simp only [List.mem_cons, List.not_mem_nil, or_false] at hb
  rcases hb with rfl | rfl | rfl | rfl
  ·exact S.2 _ b1 (by simp; omega)
  ·exact S.2 _ b5 (by simp; omega)
  ·exact S.2 _ b6 (by simp; omega)
  ·exact S.2 _ b2 (by simp; omega)
 have behind : ∀ {F : RG} {H' : List AObj} {pp ph ps : Nat} {xs : List Int} {v2 : Value} {o : Option Nat}, SameX [H2.length] H9 H' → xs.length = n → OwnX H' 1 (xs.map vint) n v2 o → H'[pp]? = some (.cells (p.cells ++ (q.cells ++ q.cells)) true 0) → H'[ph]? = some (.cells [hv, v2, hv] true 0) → H'[ps]? = some (.cells (s.cells ++ (t.cells ++ t.cells)) true 0) → F.ds = [] → F.r 12 = .slice (some ⟨pp, 0, none⟩) 3 3 → F.r 13 = .slice (some ⟨ph, 0, none⟩) 3 3 → F.r 14 = .slice (some ⟨ps, 0, none⟩) 3 3 →
   W prog (J2 prog W0 Post) 200 h.length 11 (subC [1, 1, 1, 1, 1] (codeOf f11)) F H' (contX pl11 prog (J2 prog W0 Post) 200 h.length 11 ct11 [1, 1, 1, 1, 1] (codeOf f11) [] (RetQ prog [.tmp 8] h.length K)) := by
  intro F H' pp ph ps xs v2 o T hx O cp ch cs ds r12 r13 r14
  rw [s11_2]
  have sy' : Sli H' hv 1 ys.length (ys.map vint) := (hh9.thru T (by simp; omega)).sli sy (by simp)
  have vo := ownX_val O
  have sx : Sli H' v2 1 xs.length (xs.map vint) := by
   rw [hx]
   exact ownX_sli O
  have las : ∀ (i : Nat), i < 3 → ∃ x t' v y, ∀ H2, SameX [] H' H2 → Las H2 pp ph ps i x t' v y := fun i hi => by
   have go : ∀ (x : Pas) (t' : SkyR) (v : Value) (y : List Int), ([p, q, q] : List Pas)[i]? = some x → ([s, t, t] : List SkyR)[i]? = some t' → ([hv, v2, hv] : List Value)[i]? = some v → kn1 v = true → Sli H' v 1 y.length (y.map vint) → y.length < 1000 → ∃ x t' v y, ∀ H2, SameX [] H' H2 → Las H2 pp ph ps i x t' v y := fun x t' v y hx ht hv kv sv ly => ⟨x, t', v, y, fun H2 S => by
    have cp2 : H2[pp]? = some (.cells (([p, q, q] : List Pas).flatMap Pas.cells) true 0) := by simpa using S.get cp (by simp)
    have cs2 : H2[ps]? = some (.cells (([s, t, t] : List SkyR).flatMap SkyR.cells) true 0) := by simpa using S.get cs (by simp)
    have slP : SliE H2 (.slice (some ⟨pp, 0, none⟩) 3 3) 6 Pas.cells [p, q, q] := ownX_sli (ownX_new (s := 6) (n := 3) cp2 rfl rfl)
    have slS : SliE H2 (.slice (some ⟨ps, 0, none⟩) 3 3) 3 SkyR.cells [s, t, t] := ownX_sli (ownX_new (s := 3) (n := 3) cs2 rfl rfl)
    obtain ⟨b, oo, cc, wr, sz, hidx, hb, hos, htk, hkn⟩ := sliE_elem (s := 3) (fun _ => rfl) (by decide) slS (i := i) hi
    obtain ⟨b', oo', cc', wr', sz', hidx', hb', hos', htk', hkn'⟩ := sliE_elem (s := 6) (fun _ => rfl) (by decide) slP (i := i) hi
    have ex : ([p, q, q] : List Pas)[i]'hi = x := (List.getElem?_eq_some_iff.1 hx).2
    have et : ([s, t, t] : List SkyR)[i]'hi = t' := (List.getElem?_eq_some_iff.1 ht).2
    rw [et] at htk
    rw [ex] at htk'
    refine ⟨fun hk => hidx' _ (load_part (c := x.cells) hb' hos' htk' rfl (hk _)), fun hk => hidx _ (load_part (c := t'.cells) hb hos htk rfl (hk _)), fun hk => ?_, S.sli sv (by simp), ly⟩
    refine idxI ⟨by omega, by omega⟩ (ldI (v := v) (S.get ch (by simp)) ?_ kv (hk _))
    rw [Int.toNat_natCast, Nat.mul_one, Nat.zero_add]
    exact hv⟩
   match i, hi with
   | 0, _ => exact go p s hv ys rfl rfl rfl vh.2.2 sy' (by omega)
   | 1, _ => exact go q t v2 xs rfl rfl rfl vo.2.2 sx (by omega)
   | 2, _ => exact go q t hv ys rfl rfl rfl vh.2.2 sy' (by omega)
  refine l11_3 hJ (fun i : Nat => 3 - i) (fun i F H2 => i ≤ 3 ∧ SameX [] H' H2 ∧ Mas F pp ph ps i) ?_ (s := 0)
   (.inl ⟨Nat.zero_le _, SameX.refl, ⟨ds, r12, r13, r14, rfl⟩⟩)
  clear ds r12 r13 r14 F
  rintro i F H2 ⟨hi, S, M⟩ okc hnc
  rw [s11_3, M.r12, M.r13, M.r14, M.r15, M.ds]
  have cp2 : H2[pp]? = some (.cells (([p, q, q] : List Pas).flatMap Pas.cells) true 0) := by simpa using S.get cp (by simp)
  have slP : SliE H2 (.slice (some ⟨pp, 0, none⟩) 3 3) 6 Pas.cells [p, q, q] := ownX_sli (ownX_new (s := 6) (n := 3) cp2 rfl rfl)
  refine lenI slP (lssI (cndI (fun hl => ?_) fun _ => good21 fun H13 _ => retL_same (by simp [unk]) (hK H13)))
  have hi3 : i < 3 := by
   have : ((([p, q, q] : List Pas).length : Nat) : Int) = 3 := rfl
   omega
  obtain ⟨x, t', v, y, las⟩ := las i hi3
  have A2 := las H2 S
  have al := A2.l
  refine A2.w fun q1 => good47 hJ (xs := y) A2.sl (by omega) fun cc sz => ?_
  generalize hHn : H2 ++ [AObj.cells (y.map vint) true sz] = Hn
  have Sn : SameX [] H2 Hn := by rw [← hHn]; exact SameX.refl.app
  have hon : Hn[H2.length]? = some (.cells (y.map vint) true sz) := by rw [← hHn]; simp
  have so : Sli Hn (.slice (some ⟨H2.length, 0, none⟩) y.length cc) 1 y.length (y.map vint) := sli_new (wr := true) (sz := sz) hon (by simp) (kn_ints _)
  have Tn := S.trans Sn
  have An := las Hn Tn
  refine An.x fun q2 => An.t fun q3 => sdsOwn hJ (hs := y) so (by omega) fun H3 va S3 sa => ext0 (ext1 (hold.2 ?_))
  have T3 := Tn.trans S3
  exact as2 hJ ⟨M.ds, M.r12, M.r13, M.r14, M.r15⟩ (fun H6 S6 => las H6 (T3.trans S6)) (by omega) (S3.sli so (by simp)) sa rfl rfl rfl fun F' H6 S6 M' => ⟨i + 1, by dsimp only; omega, .inl ⟨by omega, T3.trans S6, M'⟩⟩
 have f6 : ∀ {KL : List Value → Prop}, KL (p.cells ++ (q.cells ++ q.cells)) → aFill (zrep [vint 0, vint 0, vint 0, vint 0, vint 0, vint 0] 3) [(0, 6, .agg ⟨p.cells⟩), (6, 6, .agg ⟨q.cells⟩), (12, 6, .agg ⟨q.cells⟩)] KL := fun {KL} hk => by
  refine fillO (l := p.cells) rfl rfl rfl (by decide) (fillO (l := q.cells) rfl rfl rfl (by rw [wrAt_length]; decide) (fillO (l := q.cells) rfl rfl rfl (by rw [wrAt_length, wrAt_length]; decide) (fillI ?_)))
  exact hk
 have f3 : ∀ {KL : List Value → Prop}, KL (s.cells ++ (t.cells ++ t.cells)) → aFill (zrep [vint 0, vint 0, vint 0] 3) [(0, 3, .agg ⟨s.cells⟩), (3, 3, .agg ⟨t.cells⟩), (6, 3, .agg ⟨t.cells⟩)] KL := fun {KL} hk => by
  refine fillO (l := s.cells) rfl rfl rfl (by decide) (fillO (l := t.cells) rfl rfl rfl (by rw [wrAt_length]; decide) (fillO (l := t.cells) rfl rfl rfl (by rw [wrAt_length, wrAt_length]; decide) (fillI ?_)))
  exact hk
 have f1 : ∀ {v2 : Value} {KL : List Value → Prop}, (v2.cells = #[v2] ∧ one v2 = true) → KL [hv, v2, hv] → aFill (zrep [Value.slice none 0 0] 3) [(0, 1, hv), (1, 1, v2), (2, 1, hv)] KL := fun {v2 KL} h2 hk => by
  refine fillO (l := [hv]) (by rw [vh.1]) rfl (by simp [vh.2.1]) (by decide) (fillO (l := [v2]) (by rw [h2.1]) rfl (by simp [h2.2]) (by rw [wrAt_length]; decide) (fillO (l := [hv]) (by rw [vh.1]) rfl (by simp [vh.2.1]) (by rw [wrAt_length, wrAt_length]; decide) (fillI ?_)))
  exact hk
 have l9h := hxLt a9
 have front : ∀ {F : RG}, F.ds = [] → F.r 1 = hv → F.r 4 = ptr p1 0 → F.r 6 = ptr p2 0 → F.r 9 = ptr H2.length 0 → F.r 10 = ptr p5 0 → F.r 11 = ptr p6 0 →
   W prog (J2 prog W0 Post) 200 h.length 11 (subC [1, 1, 1, 1] (codeOf f11)) F H9 (contX pl11 prog (J2 prog W0 Post) 200 h.length 11 ct11 [1, 1, 1, 1] (codeOf f11) [] (RetQ prog [.tmp 8] h.length K)) := by
  intro F ds r1 r4 r6 r9 r10 r11
  rw [s11_1, r1, r4, r6, r9, r10, r11]
  refine ⟨[p1, p5, p6, p2], load_part (c := p.cells) k1 (by simp [Pas.cells]) rfl rfl ⟨by simp [RdOk, ptr, ptrBlk], load_part (c := q.cells) k5 (by simp [Pas.cells]) rfl rfl ⟨by simp [RdOk, ptr, ptrBlk], load_part (c := q.cells) k5 (by simp [Pas.cells]) rfl rfl ⟨by simp [RdOk, ptr, ptrBlk], offI (ldI (v := vint t.days) k6 rfl rfl ⟨by simp [RdOk, ptr, ptrBlk], load_part (c := s.cells) k2 (by simp [SkyR.cells]) rfl rfl ⟨by simp [RdOk, ptr, ptrBlk], load_part (c := t.cells) k6 (by simp [SkyR.cells]) rfl rfl ⟨by simp [RdOk, ptr, ptrBlk], load_part (c := t.cells) k6 (by simp [SkyR.cells]) rfl rfl ⟨by simp [RdOk, ptr, ptrBlk], ?_⟩⟩⟩⟩)⟩⟩⟩⟩
  rw [hn]
  refine ⟨?_, ?_, ?_⟩
  ·refine ⟨by decide, f6 (qNew fun G1 z1 e10 D1 m1 l10 => ⟨sb (D1.weak0), ?_⟩)⟩
   refine ⟨?_, ?_⟩
   ·refine good30 hJ (HX.same a9 D1 (by simp)) (by omega) (by omega) (by omega) fun xs v2 o G2 hx hxs D2 w2 O2 ho => ⟨sb ((D1.weak0).trans D2), ?_⟩
    refine ⟨?_, ?_⟩
    ·refine ⟨by decide, f1 ⟨(ownX_val O2).1, (ownX_val O2).2.1⟩ (qNew fun G3 z3 e30 D3 m3 l30 => ⟨sb ((((D1.weak0).trans D2).trans D3.weak0)), ?_⟩)⟩
     refine ⟨by decide, f3 (qNew fun G4 z4 e40 D4 m4 l40 => ⟨sb (((((D1.weak0).trans D2).trans D3.weak0).trans D4.weak0)), ?_⟩)⟩
     exact hold.2 (behind ((((D1.weak0).trans D2).trans D3.weak0).trans D4.weak0) hx (ownX_keep (ownX_keep O2 D3 (by simp)) D4 (by simp)) (D4.get (D3.get (D2.get m1 (by simp; omega)) (by simp)) (by simp)) (D4.get m3 (by simp)) m4 ds rfl rfl rfl)
    ·refine ⟨by decide, f3 (qNew fun G5 z5 e50 D5 m5 l50 => ⟨sb ((((D1.weak0).trans D2).trans D5.weak0)), ?_⟩)⟩
     refine ⟨by decide, f1 ⟨(ownX_val (ownX_keep O2 D5 (by simp))).1, (ownX_val (ownX_keep O2 D5 (by simp))).2.1⟩ (qNew fun G6 z6 e60 D6 m6 l60 => ⟨sb (((((D1.weak0).trans D2).trans D5.weak0).trans D6.weak0)), ?_⟩)⟩
     exact hold.2 (behind ((((D1.weak0).trans D2).trans D5.weak0).trans D6.weak0) hx (ownX_keep (ownX_keep O2 D5 (by simp)) D6 (by simp)) (D6.get (D5.get (D2.get m1 (by simp; omega)) (by simp)) (by simp)) m6 (D6.get m5 (by simp)) ds rfl rfl rfl)
   ·refine ⟨by decide, f3 (qNew fun G7 z7 e70 D7 m7 l70 => ⟨sb (((D1.weak0).trans D7.weak0)), ?_⟩)⟩
    refine good30 hJ (HX.same (HX.same a9 D1 (by simp)) D7 (by simp)) (by omega) (by omega) (by omega) fun xs v2 o G8 hx hxs D8 w8 O8 ho => ⟨sb (((D1.weak0).trans D7.weak0).trans D8), ?_⟩
    refine ⟨by decide, f1 ⟨(ownX_val O8).1, (ownX_val O8).2.1⟩ (qNew fun G9 z9 e90 D9 m9 l90 => ⟨sb (((((D1.weak0).trans D7.weak0).trans D8).trans D9.weak0)), ?_⟩)⟩
    exact hold.2 (behind ((((D1.weak0).trans D7.weak0).trans D8).trans D9.weak0) hx (ownX_keep O8 D9 (by simp)) (D9.get (D8.get (D7.get m1 (by simp)) (by simp; omega)) (by simp)) m9 (D9.get (D8.get m7 (by simp; omega)) (by simp)) ds rfl rfl rfl)
  ·refine good30 hJ a9 (by omega) (by omega) (by omega) fun xs v2 o G10 hx hxs D10 w10 O10 ho => ⟨sb (D10), ?_⟩
   refine ⟨?_, ?_, ?_⟩
   ·refine ⟨by decide, f6 (qNew fun G11 z11 e110 D11 m11 l110 => ⟨sb ((D10.trans D11.weak0)), ?_⟩)⟩
    refine ⟨?_, ?_⟩
    ·refine ⟨by decide, f1 ⟨(ownX_val (ownX_keep O10 D11 (by simp))).1, (ownX_val (ownX_keep O10 D11 (by simp))).2.1⟩ (qNew fun G12 z12 e120 D12 m12 l120 => ⟨sb (((D10.trans D11.weak0).trans D12.weak0)), ?_⟩)⟩
     refine ⟨by decide, f3 (qNew fun G13 z13 e130 D13 m13 l130 => ⟨sb ((((D10.trans D11.weak0).trans D12.weak0).trans D13.weak0)), ?_⟩)⟩
     exact hold.2 (behind (((D10.trans D11.weak0).trans D12.weak0).trans D13.weak0) hx (ownX_keep (ownX_keep (ownX_keep O10 D11 (by simp)) D12 (by simp)) D13 (by simp)) (D13.get (D12.get m11 (by simp)) (by simp)) (D13.get m12 (by simp)) m13 ds rfl rfl rfl)
    ·refine ⟨by decide, f3 (qNew fun G14 z14 e140 D14 m14 l140 => ⟨sb (((D10.trans D11.weak0).trans D14.weak0)), ?_⟩)⟩
     refine ⟨by decide, f1 ⟨(ownX_val (ownX_keep (ownX_keep O10 D11 (by simp)) D14 (by simp))).1, (ownX_val (ownX_keep (ownX_keep O10 D11 (by simp)) D14 (by simp))).2.1⟩ (qNew fun G15 z15 e150 D15 m15 l150 => ⟨sb ((((D10.trans D11.weak0).trans D14.weak0).trans D15.weak0)), ?_⟩)⟩
     exact hold.2 (behind (((D10.trans D11.weak0).trans D14.weak0).trans D15.weak0) hx (ownX_keep (ownX_keep (ownX_keep O10 D11 (by simp)) D14 (by simp)) D15 (by simp)) (D15.get (D14.get m11 (by simp)) (by simp)) m15 (D15.get m14 (by simp)) ds rfl rfl rfl)
   ·refine ⟨by decide, f1 ⟨(ownX_val O10).1, (ownX_val O10).2.1⟩ (qNew fun G16 z16 e160 D16 m16 l160 => ⟨sb ((D10.trans D16.weak0)), ?_⟩)⟩
    refine ⟨?_, ?_⟩
    ·refine ⟨by decide, f6 (qNew fun G17 z17 e170 D17 m17 l170 => ⟨sb (((D10.trans D16.weak0).trans D17.weak0)), ?_⟩)⟩
     refine ⟨by decide, f3 (qNew fun G18 z18 e180 D18 m18 l180 => ⟨sb ((((D10.trans D16.weak0).trans D17.weak0).trans D18.weak0)), ?_⟩)⟩
     exact hold.2 (behind (((D10.trans D16.weak0).trans D17.weak0).trans D18.weak0) hx (ownX_keep (ownX_keep (ownX_keep O10 D16 (by simp)) D17 (by simp)) D18 (by simp)) (D18.get m17 (by simp)) (D18.get (D17.get m16 (by simp)) (by simp)) m18 ds rfl rfl rfl)
    ·refine ⟨by decide, f3 (qNew fun G19 z19 e190 D19 m19 l190 => ⟨sb (((D10.trans D16.weak0).trans D19.weak0)), ?_⟩)⟩
     refine ⟨by decide, f6 (qNew fun G20 z20 e200 D20 m20 l200 => ⟨sb ((((D10.trans D16.weak0).trans D19.weak0).trans D20.weak0)), ?_⟩)⟩
     exact hold.2 (behind (((D10.trans D16.weak0).trans D19.weak0).trans D20.weak0) hx (ownX_keep (ownX_keep (ownX_keep O10 D16 (by simp)) D19 (by simp)) D20 (by simp)) m20 (D20.get (D19.get m16 (by simp)) (by simp)) (D20.get m19 (by simp)) ds rfl rfl rfl)
   ·refine ⟨by decide, f3 (qNew fun G21 z21 e210 D21 m21 l210 => ⟨sb ((D10.trans D21.weak0)), ?_⟩)⟩
    refine ⟨?_, ?_⟩
    ·refine ⟨by decide, f6 (qNew fun G22 z22 e220 D22 m22 l220 => ⟨sb (((D10.trans D21.weak0).trans D22.weak0)), ?_⟩)⟩
     refine ⟨by decide, f1 ⟨(ownX_val (ownX_keep (ownX_keep O10 D21 (by simp)) D22 (by simp))).1, (ownX_val (ownX_keep (ownX_keep O10 D21 (by simp)) D22 (by simp))).2.1⟩ (qNew fun G23 z23 e230 D23 m23 l230 => ⟨sb ((((D10.trans D21.weak0).trans D22.weak0).trans D23.weak0)), ?_⟩)⟩
     exact hold.2 (behind (((D10.trans D21.weak0).trans D22.weak0).trans D23.weak0) hx (ownX_keep (ownX_keep (ownX_keep O10 D21 (by simp)) D22 (by simp)) D23 (by simp)) (D23.get m22 (by simp)) m23 (D23.get (D22.get m21 (by simp)) (by simp)) ds rfl rfl rfl)
    ·refine ⟨by decide, f1 ⟨(ownX_val (ownX_keep O10 D21 (by simp))).1, (ownX_val (ownX_keep O10 D21 (by simp))).2.1⟩ (qNew fun G24 z24 e240 D24 m24 l240 => ⟨sb (((D10.trans D21.weak0).trans D24.weak0)), ?_⟩)⟩
     refine ⟨by decide, f6 (qNew fun G25 z25 e250 D25 m25 l250 => ⟨sb ((((D10.trans D21.weak0).trans D24.weak0).trans D25.weak0)), ?_⟩)⟩
     exact hold.2 (behind (((D10.trans D21.weak0).trans D24.weak0).trans D25.weak0) hx (ownX_keep (ownX_keep (ownX_keep O10 D21 (by simp)) D24 (by simp)) D25 (by simp)) m25 (D25.get m24 (by simp)) (D25.get (D24.get m21 (by simp)) (by simp)) ds rfl rfl rfl)
  ·refine ⟨by decide, f3 (qNew fun G26 z26 e260 D26 m26 l260 => ⟨sb (D26.weak0), ?_⟩)⟩
   refine ⟨?_, ?_⟩
   ·refine ⟨by decide, f6 (qNew fun G27 z27 e270 D27 m27 l270 => ⟨sb (((D26.weak0).trans D27.weak0)), ?_⟩)⟩
    refine good30 hJ (HX.same (HX.same a9 D26 (by simp)) D27 (by simp)) (by omega) (by omega) (by omega) fun xs v2 o G28 hx hxs D28 w28 O28 ho => ⟨sb (((D26.weak0).trans D27.weak0).trans D28), ?_⟩
    refine ⟨by decide, f1 ⟨(ownX_val O28).1, (ownX_val O28).2.1⟩ (qNew fun G29 z29 e290 D29 m29 l290 => ⟨sb (((((D26.weak0).trans D27.weak0).trans D28).trans D29.weak0)), ?_⟩)⟩
    exact hold.2 (behind ((((D26.weak0).trans D27.weak0).trans D28).trans D29.weak0) hx (ownX_keep O28 D29 (by simp)) (D29.get (D28.get m27 (by simp; omega)) (by simp)) m29 (D29.get (D28.get (D27.get m26 (by simp)) (by simp; omega)) (by simp)) ds rfl rfl rfl)
   ·refine good30 hJ (HX.same a9 D26 (by simp)) (by omega) (by omega) (by omega) fun xs v2 o G30 hx hxs D30 w30 O30 ho => ⟨sb ((D26.weak0).trans D30), ?_⟩
    refine ⟨?_, ?_⟩
    ·refine ⟨by decide, f6 (qNew fun G31 z31 e310 D31 m31 l310 => ⟨sb ((((D26.weak0).trans D30).trans D31.weak0)), ?_⟩)⟩
     refine ⟨by decide, f1 ⟨(ownX_val (ownX_keep O30 D31 (by simp))).1, (ownX_val (ownX_keep O30 D31 (by simp))).2.1⟩ (qNew fun G32 z32 e320 D32 m32 l320 => ⟨sb (((((D26.weak0).trans D30).trans D31.weak0).trans D32.weak0)), ?_⟩)⟩
     exact hold.2 (behind ((((D26.weak0).trans D30).trans D31.weak0).trans D32.weak0) hx (ownX_keep (ownX_keep O30 D31 (by simp)) D32 (by simp)) (D32.get m31 (by simp)) m32 (D32.get (D31.get (D30.get m26 (by simp; omega)) (by simp)) (by simp)) ds rfl rfl rfl)
    ·refine ⟨by decide, f1 ⟨(ownX_val O30).1, (ownX_val O30).2.1⟩ (qNew fun G33 z33 e330 D33 m33 l330 => ⟨sb ((((D26.weak0).trans D30).trans D33.weak0)), ?_⟩)⟩
     refine ⟨by decide, f6 (qNew fun G34 z34 e340 D34 m34 l340 => ⟨sb (((((D26.weak0).trans D30).trans D33.weak0).trans D34.weak0)), ?_⟩)⟩
     exact hold.2 (behind ((((D26.weak0).trans D30).trans D33.weak0).trans D34.weak0) hx (ownX_keep (ownX_keep O30 D33 (by simp)) D34 (by simp)) m34 (D34.get m33 (by simp)) (D34.get (D33.get (D30.get m26 (by simp; omega)) (by simp)) (by simp)) ds rfl rfl rfl)
 exact hold.2 (front rfl rfl rfl rfl rfl rfl rfl)
end
end Go.Proofs.Ythnccaajpdnndaa
namespace Go.Proofs.Ythnccaajpdnndaa
open Go.Conc Go.ChangeShapes Go.WideShapes Go.ChangeAt Go.RowKit Go.Proofs.Try
set_option maxRecDepth 100000
theorem trodAll_cons {H : Type} {enc : TypeId × Value → H} {P : Program} {w : World} {base : Nat} {spare : Nat → Bool} {held : Bool} {t : TypeId} {ts : List TypeId} {vs : List Value} {ds : List (DataW H)} {ps : List MemPlace}
  (h : DataW.TrodAll enc P w base spare held (t :: ts) vs ds ps) : ∃ v vs' d ds' p q, vs = v :: vs' ∧ ds = d :: ds' ∧ ps = p ++ q ∧ DataW.Trod enc P w base spare held t v d p ∧ DataW.TrodAll enc P w base spare held ts vs' ds' q := by
 match vs, ds, h with
 | v :: vs, d :: ds, ⟨p, q, h1, h2, h3⟩ => exact ⟨v, vs, d, ds, p, q, rfl, rfl, h3, h1, h2⟩
theorem trodAll_nil {H : Type} {enc : TypeId × Value → H} {P : Program} {w : World} {base : Nat} {spare : Nat → Bool} {held : Bool} {vs : List Value} {ds : List (DataW H)} {ps : List MemPlace}
  (h : DataW.TrodAll enc P w base spare held [] vs ds ps) : vs = [] ∧ ds = [] ∧ ps = [] := by
 match vs, ds, h with
 | [], [], h => exact ⟨rfl, rfl, h⟩
theorem trodAll_mkc {H : Type} {enc : TypeId × Value → H} {P : Program} {w : World} {base : Nat} {spare : Nat → Bool} {held : Bool} {t : TypeId} {ts : List TypeId} {v : Value} {vs : List Value} {d : DataW H} {ds : List (DataW H)} {p q : List MemPlace}
 (h1 : DataW.Trod enc P w base spare held t v d p) (h2 : DataW.TrodAll enc P w base spare held ts vs ds q) : DataW.TrodAll enc P w base spare held (t :: ts) (v :: vs) (d :: ds) (p ++ q) := ⟨p, q, h1, h2, rfl⟩
section
variable {H : Type} {enc : TypeId × Value → H}
theorem fine_int {m : Nat} {n : Int} : Fine m (vint n) := ⟨by simp [VOk], rfl, by simp [ren]⟩
theorem trod_vint {W : World} {n : Nat} {cs : List Value} {r : DataW H × List MemPlace} {t : TypeId} (u : prog.underlying t = some (.int .i64)) (h : DataW.trod enc prog W 0 (fun _ => true) true n t cs = some r) : ∃ z, cs = [vint z] := by
 obtain ⟨z, h1, _⟩ := DataW.trod_int u h
 exact ⟨z, h1⟩
end
section
variable {H : Type} {enc : TypeId × Value → H} {W : World} {n base : Nat} {cs : List Value} {r : DataW H × List MemPlace}
def structOf : Option TypeDesc → Option (List (TypeId × Nat))
 | some (.struct fs) => some (fs.toList.map fun f => (f.type, f.offset))
 | _ => none
theorem trod_fields {t : TypeId} {l : List (TypeId × Nat)} (hs : structOf (prog.underlying t) = some l) (h : DataW.trod enc prog W 0 (fun _ => true) true n t cs = some r) :
  cs.length = prog.cellsOf t ∧ ∃ n' : Nat, ∀ (i : Nat) (ty : TypeId) (off : Nat), l[i]? = some (ty, off) → ∃ r', DataW.trod enc prog W 0 (fun _ => true) true n' ty ((cs.drop off).take (prog.cellsOf ty)) = some r' := by
 unfold structOf at hs
 split at hs
 ·rename_i fs hu
  cases hs
  obtain ⟨xs, n', _, rfl, hl, hxl, hf⟩ := DataW.trod_struct hu h
  refine ⟨hl, n', fun i ty off hi => ?_⟩
  rw [List.getElem?_map, Option.map_eq_some_iff] at hi
  obtain ⟨f, hfi, he⟩ := hi
  cases he
  have hfi' : fs[i]? = some f := by simpa using hfi
  have hil : i < xs.length := by rw [hxl]; exact (Array.getElem?_eq_some_iff.1 hfi').1
  exact ⟨xs[i], by rw [hf i f hfi', List.getElem?_eq_getElem hil]⟩
 ·cases hs
theorem lok_of : ∀ {l : List Value} {m : Nat}, (∀ v ∈ l, VOk m v) → LOk m l
 | [], _, _ => by simp [LOk]
 | v :: l, m, h => by
  simp only [LOk]
  exact ⟨h v (by simp), lok_of fun u hu => h u (by simp [hu])⟩
theorem argOk_agg {l : List Value} (h : ∀ v ∈ l, ArgOk W v) : ArgOk W (.agg ⟨l⟩) := by
 refine ⟨?_, ?_⟩
 ·simp only [VOk, AOk]
  exact lok_of fun v hv => (h v hv).1
 ·simp only [ren, renA, renL_eq]
  congr 2
  rw [List.map_congr_left (g := id) fun v hv => (h v hv).2, List.map_id]
theorem argOk_fine {v : Value} (h : ∀ m, Fine m v) : ArgOk W v := ⟨(h _).1, (h 0).2.2⟩
theorem agg_of {t : TypeId} {l : List (TypeId × Nat)} {v : Value} (hs : structOf (prog.underlying t) = some l) (hval : Value.okWide prog W .any base t v) : ∃ cs, v = .agg cs ∧ Row.okWide prog W .any base t cs := by
 unfold structOf at hs
 split at hs
 ·rename_i fs hu
  simp only [Value.okWide, hu] at hval
  obtain ⟨cs, h1, _, h3⟩ := hval
  exact ⟨cs, h1, h3⟩
 ·cases hs
end
section
variable {H : Type} {enc : TypeId × Value → H} {W : World} {base : Nat}
theorem arg_recs {t : TypeId} {m : Nat} (hs : structOf (prog.underlying t) = some ((List.range m).map fun i => (3, i))) (hc : prog.cellsOf t = m) {v : Value} {d : DataW H} {ps : List MemPlace}
  (hval : Value.okWide prog W .any base t v) (hd : DataW.Trod enc prog W 0 (fun _ => true) true t v d ps) : ∃ zs : List Int, zs.length = m ∧ v = .agg ⟨zs.map vint⟩ ∧ ArgOk W v := by
 have u3 : prog.underlying 3 = some (.int .i64) := by kernel_rfl
 have c3 : prog.cellsOf 3 = 1 := by kernel_rfl
 obtain ⟨cs, rfl, _⟩ := agg_of hs hval
 obtain ⟨cs⟩ := cs
 obtain ⟨fuel, hf⟩ := hd
 obtain ⟨hl, n', hf⟩ := trod_fields (cs := cs) hs hf
 rw [hc] at hl
 have hz : ∀ i, i < m → ∃ z, cs[i]? = some (vint z) := fun i hi => by
  obtain ⟨r', g⟩ := hf i 3 i (by rw [List.getElem?_map, List.getElem?_range hi]; rfl)
  rw [c3] at g
  obtain ⟨z, hz⟩ := trod_vint u3 g
  refine ⟨z, ?_⟩
  have := congrArg (fun l => l[0]?) hz
  simpa [List.getElem?_take, List.getElem?_drop] using this
 have hall : ∀ v ∈ cs, ∃ z, v = vint z := fun v hv => by
  obtain ⟨i, hi, rfl⟩ := List.getElem_of_mem hv
  obtain ⟨z, e⟩ := hz i (by omega)
  rw [List.getElem?_eq_getElem hi] at e
  exact ⟨z, Option.some.inj e⟩
 have key : ∀ (l : List Value), (∀ v ∈ l, ∃ z, v = vint z) → ∃ zs : List Int, l = zs.map vint := by
  intro l
  induction l with
  | nil => exact fun _ => ⟨[], rfl⟩
  | cons v l ih =>
   intro h
   obtain ⟨z, rfl⟩ := h v (by simp)
   obtain ⟨zs, e⟩ := ih fun u hu => h u (by simp [hu])
   exact ⟨z :: zs, by rw [e]; rfl⟩
 obtain ⟨zs, rfl⟩ := key cs hall
 refine ⟨zs, by simpa using hl, rfl, argOk_agg fun v hv => ?_⟩
 obtain ⟨z, rfl⟩ := hall v hv
 exact argOk_fine fun m => fine_int
theorem arg_pas {v : Value} {d : DataW H} {ps : List MemPlace} (hval : Value.okWide prog W .any base 31 v) (hd : DataW.Trod enc prog W 0 (fun _ => true) true 31 v d ps) : ∃ w : Pas, v = .agg ⟨w.cells⟩ ∧ ArgOk W v := by
 obtain ⟨zs, hl, rfl, ok⟩ := arg_recs (m := 6) (by kernel_rfl) (by kernel_rfl) hval hd
 match zs, hl with
 | [a, b, c, d, e, f], _ => exact ⟨⟨a, b, c, d, e, f⟩, rfl, ok⟩
theorem arg_skyr {v : Value} {d : DataW H} {ps : List MemPlace} (hval : Value.okWide prog W .any base 24 v) (hd : DataW.Trod enc prog W 0 (fun _ => true) true 24 v d ps) : ∃ w : SkyR, v = .agg ⟨w.cells⟩ ∧ ArgOk W v := by
 obtain ⟨zs, hl, rfl, ok⟩ := arg_recs (m := 3) (by kernel_rfl) (by kernel_rfl) hval hd
 match zs, hl with
 | [a, b, c], _ => exact ⟨⟨a, b, c⟩, rfl, ok⟩
end
theorem lifted11 (os : Os) (started : os.Started) (H : Type) (enc : TypeId × Value → H) :
  ReturnsInLeavingWide {} checked os 11 .any (Rows.grassAsksSpec.pre6 enc prog f11 Rows.grassAsksRow.domain false) (Rows.grassAsksSpec.post enc prog f11 false true false false) := by
 refine returnsInLeavingWide_of_change_sized (C := checked) own started at11
  (ChangeSpec.witness6 (enc := enc) (C := checked) false ⟨#[], #[.agg #[.int .i64 0, .int .i64 0, .int .i64 0, .int .i64 0, .int .i64 0, .int .i64 0], .slice none 0 0, .agg #[.int .i64 0, .int .i64 0, .int .i64 0], .slice none 0 0], []⟩ 8 (by kernel_rfl) (by kernel_rfl) (by kernel_rfl) (by kernel_rfl)) ?_
 intro W base args ds gs before hval0 hW _ hsz0 _
 have hsz : (DataW.weightsEach prog (f11.params.toList ++ Rows.grassAsksSpec.plain.varTypes prog) (ds ++ gs)).all (· ≤ reachBytes) = true := hsz0
 clear hsz0
 have hval : ∀ (j : Nat) t v, f11.params[j]? = some t → args[j]? = some v → Value.okWide prog W .any base t v := hval0
 have hW' := hW
 obtain ⟨p, q, hA0, hV, rfl, _, _⟩ := hW
 have hA : DataW.TrodAll enc prog W 0 (fun _ => true) true f11.params.toList args.toList ds p := hA0
 have hps : f11.params = #[31, 25, 24, 25] := by kernel_rfl
 rw [hps] at hA hval hsz
 obtain ⟨args⟩ := args
 have r0 : DataW.TrodAll enc prog W 0 (fun _ => true) true [31, 25, 24, 25] args ds p := hA
 obtain ⟨v0, vs0, d0, ds0, p0, q0, hv0, hd0, hp0, h0, r1⟩ := trodAll_cons r0
 obtain ⟨v1, vs1, d1, ds1, p1, q1, hv1, hd1, hp1, h1, r2⟩ := trodAll_cons r1
 obtain ⟨v2, vs2, d2, ds2, p2, q2, hv2, hd2, hp2, h2, r3⟩ := trodAll_cons r2
 obtain ⟨v3, vs3, d3, ds3, p3, q3, hv3, hd3, hp3, h3, r4⟩ := trodAll_cons r3
 obtain ⟨hvn, hdn, hpn⟩ := trodAll_nil r4
 subst hvn hdn hpn
 subst hv3 hd3 hp3
 subst hv2 hd2 hp2
 subst hv1 hd1 hp1
 subst hv0 hd0 hp0
 obtain ⟨rfl, rfl⟩ := trodVars_none hV
 have u3 : prog.underlying 3 = some (.int .i64) := by kernel_rfl
 have u27 : prog.underlying 25 = some (.slice 3) := by kernel_rfl
 have u4 : prog.underlying 4 = some .bool := by kernel_rfl
 have c3 : prog.cellsOf 3 = 1 := by kernel_rfl
 have b3 : prog.bytesOf 3 = 8 := by kernel_rfl
 have hlt : ∀ x ∈ p0 ++ (p1 ++ (p2 ++ (p3 ++ []))), x.block < W.heap.size := fun x hx => by simpa using hW'.lt x (by simpa using hx)
 have hargs : ∀ (W' : World), Below W.heap.size W W' → DataW.TrodAll enc prog W' 0 (fun b => decide (b < W.heap.size)) true [31, 25, 24, 25] [v0, v1, v2, v3] [d0, d1, d2, d3] (p0 ++ (p1 ++ (p2 ++ (p3 ++ [])))) := fun W' hn =>
  trodAll_mkc (Below.trod laidOut (by kernel_rfl) (of_decide_eq_true (by kernel_rfl)) h0 hn fun x hx => hlt x (by simp [hx])) (trodAll_mkc (Below.trod laidOut (by kernel_rfl) (of_decide_eq_true (by kernel_rfl)) h1 hn fun x hx => hlt x (by simp [hx])) (trodAll_mkc (Below.trod laidOut (by kernel_rfl) (of_decide_eq_true (by kernel_rfl)) h2 hn fun x hx => hlt x (by simp [hx])) (trodAll_mkc (Below.trod laidOut (by kernel_rfl) (of_decide_eq_true (by kernel_rfl)) h3 hn fun x hx => hlt x (by simp [hx])) (rfl))))
 obtain ⟨w0, rfl, ok0⟩ := arg_pas (hval 0 31 v0 rfl rfl) h0
 obtain ⟨ns1, sn1, ok1, hbig1⟩ := arg_ints u27 u3 c3 (hval 1 25 v1 rfl rfl) h1
 have hln1 : ns1.length < 4611686018427387904 := by
  rcases hbig1 with rfl | ⟨es, sp, rfl, hle⟩
  ·simp
  ·have := sized_slice hsz (j := 1) (t := 25) (e := 3) rfl rfl u27
   rw [b3] at this
   simp only [reachBytes] at this
   omega
 obtain ⟨w2, rfl, ok2⟩ := arg_skyr (hval 2 24 v2 rfl rfl) h2
 obtain ⟨ns3, sn3, ok3, hbig3⟩ := arg_ints u27 u3 c3 (hval 3 25 v3 rfl rfl) h3
 have hln3 : ns3.length < 4611686018427387904 := by
  rcases hbig3 with rfl | ⟨es, sp, rfl, hle⟩
  ·simp
  ·have := sized_slice hsz (j := 3) (t := 25) (e := 3) rfl rfl u27
   rw [b3] at this
   simp only [reachBytes] at this
   omega
 obtain ⟨M, last, o, w', t', r1, r2, r3, r4⟩ := law_run2 (g := 11) (fn := f11) at11 body11 (by kernel_rfl) W [.agg ⟨Pas.cells w0⟩, v1, .agg ⟨SkyR.cells w2⟩, v3] (Nat.le_of_ble_eq_true (by kernel_rfl : Nat.ble 4 f11.ntmps = true))
  (by
   intro v hv
   simp only [List.mem_cons, List.not_mem_nil, or_false] at hv
   rcases hv with rfl | rfl | rfl | rfl
   ·exact ok0
   ·exact ok1
   ·exact ok2
   ·exact ok3)
  (fun Post => walk11 (K := fun v _ => v = .bool true) sn1 hln1 sn3 hln3 fun _ => rfl)
 refine ⟨M, last, o, w', t', r1, r2, r3, r4.mono fun v hF => ?_⟩
 obtain ⟨rfl, hbelow⟩ := hF
 refine ⟨_, _, _, [], _, [], hW', ?_, hargs _ hbelow, by rfl, hbelow.frame _, fun h => by cases h⟩
 exact trodAll_mk1 (shut_bool u4 true)
theorem grassAsks_holds : Rows.GrassAsksSaid :=
 OpenClaim.holds_of_wide_leaving 11 f11 rfl rfl rfl rfl rfl rfl rfl ⟨rfl, rfl, rfl, rfl, rfl⟩ rfl rfl rfl rfl rfl (by kernel_rfl) at11 (by kernel_rfl)
  (of_decide_eq_true (by kernel_rfl)) (by unfold Func.isWrapper; first | (rw [if_pos (by decide +kernel)]; kernel_rfl) | (rw [if_neg (by decide +kernel)]; exact ⟨rfl, rfl⟩))
  (fun os started H enc _ => lifted11 os started H enc)
#print axioms grassAsks_holds
end Go.Proofs.Ythnccaajpdnndaa
