/- Parts of the proof, 5. No conditions. -/
import Derived.Test.YtlhanfcgdfjhjaaGreatDoorK4
import Derived.Test.YtlhanfcgdfjhjaaGreatDoorK2
import Derived.Test.YtlhanfcgdfjhjaaGreatDoorK3
namespace Go.Proofs.YtlhanfcgdfjhjaaGreatDoor
open Go.Conc Go.Conc.Lib Go.Proofs.Tryz
set_option maxRecDepth 100000
theorem opg20 : p20_1_0.op = .alloc 107 := by kernel_rfl
theorem wg_zero : zc prog 107 = some [.int .u64 0,.int .u32 0] := by kernel_rfl
theorem idxVI {cs : List Value} {k : Nat} {v : Value} {KV : Value → Prop} (h3 : k < 3) (hv : cs[k]? = some v) (hk : KV v) : aIdxV 3 1 false (.agg ⟨cs⟩) (ab (k : Nat)) KV := by
 refine ⟨by omega,?_⟩
 unfold aField
 simp [hv,hk]
theorem cellsOf_get {n : Nat} {R : Option (List Int)} : (cellsOf n R).length = 3 ∧ kn (cellsOf n R) = true := by cases R <;> exact ⟨rfl,rfl⟩
theorem unchC {h : List af} {i : Nat} {c : List Value} {wr : Bool} {sz : Nat} (hb : h[i]? = some (.cells c wr sz)) : (dM h)[i]? = some (.cells c wr sz) := by
 unfold dM
 rw [List.getElem?_map,hb]
 rfl
theorem unch_get {h : List af} {i : Nat} {o : af} (e : (dM h)[i]? = some o) : ∃ y,h[i]? = some y ∧ unchO y = o := by
 unfold dM at e
 rw [List.getElem?_map] at e
 exact Option.map_eq_some_iff.1 e
theorem unch_rel {ρ : Env} {h : List af} {FC : Frm} {w : World} {ft : aJ} (H : aN ρ h FC w ft) : aN ρ (dM h) FC w ft := by
 have lv : ∀ {y : af},(unchO y).live = true → y.live = true ∧ unchO y = y := fun {y} l => by
  cases y <;> first | (cases l; done) | exact ⟨rfl,rfl⟩
 have wr : ∀ {y : af},(unchO y).wrt = true → unchO y = y := fun {y} l => by
  cases y <;> first | (cases l; done) | rfl
 refine ⟨fun i o hi => ?_,fun i j o o' hi hj l l' e => ?_,fun i o hi l => ?_,fun i o hi l => ?_,H.lt,H.sub,fun b o hb => ?_,H.keptW,fun i z hi => ?_⟩
 ·rw [bW]
  obtain ⟨y,hy,rfl⟩ := unch_get hi
  have := H.obj i y hy
  cases y <;> first | trivial | exact this
 ·obtain ⟨y,hy,rfl⟩ := unch_get hi
  obtain ⟨y',hy',rfl⟩ := unch_get hj
  exact H.inj i j y y' hy hy' (lv l).1 (lv l').1 (e.imp (fun k => by rw [wr k] at k; exact k) fun k => by rw [wr k] at k; exact k)
 ·obtain ⟨y,hy,rfl⟩ := unch_get hi
  exact H.rd i y hy (lv l).1
 ·obtain ⟨y,hy,rfl⟩ := unch_get hi
  rw [wr l] at l
  exact H.wr i y hy l
 ·obtain ⟨a1,a2,a3⟩ := H.kept b o hb
  refine ⟨a1,a2,fun a oa ha hw => ?_⟩
  obtain ⟨y,hy,rfl⟩ := unch_get ha
  rw [wr hw] at hw
  exact a3 a y hy hw
 ·obtain ⟨y,hy,e⟩ := unch_get hi
  cases y <;> cases e
theorem At.dM {J : JT} {N m : Nat} {b : FB} {cs : List Frame} {FC : Frm} {ρ0 : Env} {k : List Item} {f : RG} {h : List af} (h' : At J N b cs FC ρ0 m k f (dM h)) : At J N b cs FC ρ0 m k f h := fun a ρ w ft A H hu hm =>
 h' a ρ w ft (by rw [bW]; exact A) (unch_rel H) hu (by rw [bW]; exact hm)
theorem unchO_twice (o : af) : unchO (unchO o) = unchO o := by cases o <;> rfl
theorem unch_sli {h : List af} {v : Value} {s n : Nat} {cs : List Value} (hs : Sli h v s n cs) : Sli (dM h) v s n cs := sli_frz hs fun _i _c wr _sz hi => ⟨wr,unchC hi⟩
section
variable {W0 : World} {Post : Value → World → Prop} {h : List af} {K : Value → List af → Prop}
def AnsT (h : List af) (K : Value → List af → Prop) : Option (List Int) → Prop
 | none => ∀ H',ag [] h H' → K (.tuple ⟨[.slice none 0 0,ab 11]⟩) H'
 | some l => ∀ H' v,ag [] h H' → Sli H' v 1 l.length (l.map ab) → K (.tuple ⟨[v,ab 0]⟩) H'
theorem tail20 {main : Bool} {J : JT} (hJ : Closed prog main J) {n0 n fI : Nat} {F : RG} {HT : List af} {R : Option (List Int)} (ds : F.ds = []) (r13 : F.r 13 = ptr fI 0) (hf : HT[fI]? = some (.cells (cellsOf n R) false 0)) (hn : HT[n]? = some (objOf R)) (S : ag [] h HT) (hA : AnsT h K R) :
  w20t J n0 yp4 F HT [] K := by
 rw [s20t_1,r13]
 obtain ⟨z1,z2⟩ := cellsOf_get (n := n) (R := R)
 refine ar (c := cellsOf n R) hf (by omega) (by rw [List.drop_zero]; exact List.take_of_length_le (by omega)) z2 ?_
 refine l20t_2 hJ (fun k : Nat => 3 - k) (fun k F H' => k ≤ 3 ∧ H' = HT ∧ (0 < k → R = none) ∧ F.ds = [] ∧ F.r 67 = .agg ⟨cellsOf n R⟩ ∧ F.r 68 = ab (k : Nat)) ?_ (s := 0)
  (.inl ⟨by omega,rfl,fun h => absurd h (Nat.lt_irrefl _),ds,rfl,rfl⟩)
 rintro k F2 H' ⟨hk,rfl,hR,ds2,r67,r68⟩ okc hnc
 rw [s20t_2,r67,r68,ds2]
 refine dh (ba (fun hlt => ?_) fun hge => ?_)
 ·cases R with
  | none =>
   have hv : (cellsOf n none)[k]? = some bU := by
    match k,hlt with
    | 0,_ => rfl
    | 1,_ => rfl
    | 2,_ => rfl
    | k + 3,h => exact absurd h (by omega)
   refine idxVI (by omega) hv (neqNilZ (e := 3) (by kernel_rfl) (by kernel_rfl) (aP.2 (ck (by omega) ⟨k + 1,by dsimp only; omega,.inl ⟨by omega,rfl,fun _ => rfl,ds2,r67,rfl⟩⟩)))
  | some l =>
   have hk0 : k = 0 := by
    rcases Nat.eq_zero_or_pos k with h | h
    ·exact h
    ·cases hR h
   subst hk0
   refine idxVI (v := .slice (some ⟨n,0,none⟩) l.length fz) (by omega) rfl (neqNilZ (e := 3) (by kernel_rfl) (by kernel_rfl) (bm.2 (ao (by simp [unk]) (hA _ _ S ?_))))
   refine ⟨_,_,rfl,⟨by simp,knV l⟩,.inr ⟨n,0,rfl,.inr ⟨_,_,_,hn,?_⟩⟩⟩
   rw [List.drop_zero]
   exact List.take_of_length_le (by simp)
 ·have : k = 3 := by omega
  subst this
  have := hR (by omega)
  subst this
  exact ao (by simp [unk]) (hA _ S)
theorem good20 {q : Pas} {lv : Value} {s : aU} {heads : Int} (fq : cA q) (fo : cL s) (hh : 0 ≤ heads ∧ heads ≤ 40) (d : Nat) (hd : s.days = (d : Int) + 1) (hl : SliE h lv 6 Pas.cells [q,q]) (hA : AnsT (dM h) K (foundR [q,q] s heads d 0)) : Good prog (J2 prog W0 Post) 20 [lv,.agg ⟨s.cells⟩,ab heads] h K := by
 have hJ2 := J2.closed prog W0 Post
 have L : LsOk [q,q] := ⟨⟨by simp,by simp⟩,fun x hx => by
  simp only [List.mem_cons,List.not_mem_nil,or_false,or_self] at hx
  exact hx ▸ fq⟩
 refine good_of_sem hJ2 at20 body20 (by kernel_rfl) (Nat.le_of_ble_eq_true rfl) fun ok => ?_
 rw [show f20.ntmps = 75 from by kernel_rfl,show f20.results.toList = [.tmp 6,.tmp 7] from by kernel_rfl]
 refine trunc_sound hJ2 mixed 6 (codeOf f20) (by kernel_rfl) (front20 hJ2 L fo hh hl fun F H pl ps ph fI M => ?_)
 intro b a k fs LL ρ FC w ft hb hk hL A R hn hcont
 suffices hAt : At (J2 prog W0 Post) 75 b fs FC ρ (dM H).length (.code (aw yp7 (codeOf f20)) :: k) F (dM H) from At.dM hAt a ρ w ft A R (Env.bK _ _) (by rw [bW]; exact Nat.le_refl _)
 have M2 : MidT (dM h) (dM H) F pl ps ph fI lv s heads := by
  refine ⟨⟨by rw [bW,bW]; exact M.S.1,fun i hi _ => ?_⟩,M.ds,M.r3,M.r4,M.r5,M.r13,unchC M.hl,unchC M.hs,unchC M.hh,unchC M.hf,by rw [bW]; exact M.fI⟩
  rw [bW] at hi
  unfold dM
  rw [List.getElem?_map,List.getElem?_map,M.S.2 i hi (by simp)]
 have nog : ∀ (q z : Nat),(dM H)[q]? ≠ some (.group z) := fun x z e => by
  obtain ⟨y,_,e⟩ := unch_get e
  cases y <;> cases e
 have hl2 : SliE (dM h) lv 6 Pas.cells [q,q] := unch_sli hl
 have hlh : (dM h).length = h.length := bW
 have upH : ∀ {i : Nat} {o : af},(dM h)[i]? = some o → unchO o = o := fun e => by
  obtain ⟨y,_,rfl⟩ := unch_get e
  exact unchO_twice y
 clear A R hn M
 generalize dM H = U at M2 nog
 rw [shape20]
 have lfI := ah M2.hf
 have lpl := ah M2.hl
 refine At.seq hJ2 (At.region hJ2 ?_)
 rw [show List.range ops20_1.size = [0] from by rw [z20_1]; rfl]
 obtain ⟨u1,u2,u3,u4,u5⟩ := o20_1_0 (J := J2 prog W0 Post)
 obtain ⟨ti,z,hi,hz,hzl,_⟩ := zc_some wg_zero
 refine At.group hk u1 u3 (u4 _) opg20 hi hz (by rw [← Array.toList_inj,hzl]) nog lfI (foundR [q,q] s heads d 0) fun ρ1 G hu1 hty hG hwg => ?_
 have hJ := JG.closed prog W0 Post G
 rw [u2]
 replace hG : G = mkG G.ty G.wg (ρ1.blk fI) (foundR [q,q] s heads d 0) := by
  rw [hty]
  exact hG
 have get : ∀ {i : Nat} {c : List Value} {wr : Bool} {sz : Nat},U[i]? = some (.cells c wr sz) → (U ++ [af.group 1])[i]? = some (.cells c wr sz) := fun hi => by
  rw [List.getElem?_append_left (ah hi)]
  exact hi
 have hg : GrpAt (U ++ [af.group 1]) U.length 1 := by
  refine ⟨by simp,fun x z hx => ?_,by omega⟩
  rcases snoc_get hx with ⟨e,_⟩ | hx
  ·exact e
  ·exact absurd hx (nog x z)
 have slL : SliE U lv 6 Pas.cells [q,q] := M2.S.sli hl2 (by simp)
 have kk := sliK hl
 refine At.ops_nil hJ (At.seq hJ (At.seq hJ (At.piece (Q := fun e f' h' => e = .normal ∧ RT f' U.length pl ps ph fI 0 ∧ h' = U ++ [af.group 1]) hb hk (bH hJ mixed _ ?_) (by simp) (Nat.le_refl _) ?_)))
 ·rw [q20_1,show (F.cW (some 14) (ptr U.length 0)).r 3 = ptr pl 0 from M2.r3]
  refine ldI (v := lv) (get M2.hl) rfl kk.2.2 ?_
  have slg : SliE (U ++ [af.group 1]) lv 6 Pas.cells [q,q] := sli_app slL
  rw [sliE_len slg]
  exact ⟨rfl,⟨M2.ds,M2.r3,M2.r4,M2.r5,M2.r13,rfl,rfl,rfl⟩,rfl⟩
 rintro e f1 h1 ⟨rfl,R1,rfl⟩
 refine .inl ⟨rfl,At.block hJ (At.loop hJ ?_)⟩
 have e4 : (U ++ [af.group 1]).set U.length (.group 4) = U ++ [af.group 4] := by simp
 -- what was a list in U is one while it is lent
 have keep : ∀ {i : Nat} {c : List Value} {wr : Bool} {sz : Nat},(dM h)[i]? = some (.cells c wr sz) → ((U ++ [af.group 1]).set U.length (.group 4) ++ [af.cells [ab (0 : Nat)] true 0])[i]? = some (.cells c wr sz) ∧ i ≠ U.length ∧ i ≠ fI := fun {i c wr sz} hi => by
  have h1 := M2.S.get hi (by simp)
  have h2 := ah hi
  have h3 := ah h1
  have := M2.fI
  refine ⟨?_,by omega,by omega⟩
  rw [e4,List.getElem?_append_left (by simp; omega),List.getElem?_append_left h3]
  exact h1
 refine hireT hty hk hb (by simp) (by omega) (by omega) R1 L fo hh d hd hG hwg (get M2.hl) (get M2.hs) (get M2.hh) (get M2.hf) (fun x => sli_frz hl2 fun i c wr sz hi => ?_) (sli_frz hl2 fun i c wr sz hi => ?_) hg fun ρ2 w2 ft2 f2 HR hu2 ds2 r13 => ?_
 ·obtain ⟨k1,k2,k3⟩ := keep hi
  exact ⟨_,lentM_cells k1 k2 k3⟩
 ·obtain ⟨k1,k2,k3⟩ := keep hi
  exact ⟨_,lentW_cells k1 k3⟩
 generalize hT : (U ++ [af.group 1]).set U.length (.group 4) ++ [af.cells [ab (0 : Nat)] true 0] = hh' at *
 have gf : hh'[fI]? = some (.cells [bU,bU,bU] true 0) := by
  rw [← hT,e4,List.getElem?_append_left (by simp; omega),List.getElem?_append_left lfI]
  exact M2.hf
 have hlT : hh'.length = U.length + 2 := by
  rw [← hT]
  simp
 refine At.join HR gf (by omega) (by rw [(hu2 fI (by omega)).1]; exact hG) (fun o ho _ => ?_) (fun z hz => ?_) fun ρ3 hu3 => ?_
 ·rw [List.mem_singleton.1 ho]
  rfl
 ·cases List.mem_singleton.1 hz
 generalize hHT : thawG hh' [af.cells [ab (1 : Nat)] true 0] fI (cellsOf (hh'.length + [af.cells [ab (1 : Nat)] true 0].length) (foundR [q,q] s heads d 0)) (objOf (foundR [q,q] s heads d 0)) = HT
 have hlHT : HT.length = hh'.length + 2 := by
  rw [← hHT,thawG_len]
  rfl
 have S : ag [] (dM h) HT := by
  refine ⟨by have := M2.S.1; omega,fun i hi _ => ?_⟩
  have h1 := M2.S.2 i hi (by simp)
  have h2 := M2.S.1
  have h3 := M2.fI
  rw [← hHT]
  unfold thawG
  rw [List.getElem?_append_left (by rw [List.length_set,bW]; omega),List.getElem?_set_ne (by omega)]
  have g0 : (dM hh')[i]? = (hh'[i]?).map unchO := by
   unfold dM
   rw [List.getElem?_map]
  rw [g0,← hT,e4,List.getElem?_append_left (by simp; omega),List.getElem?_append_left (by omega),h1]
  cases ho : (dM h)[i]? with
  | none => rfl
  | some o => rw [Option.map_some,upH ho]
 have t1 : HT[fI]? = some (.cells (cellsOf (hh'.length + 1) (foundR [q,q] s heads d 0)) false 0) := by
  rw [← hHT]
  unfold thawG
  rw [List.getElem?_append_left (by rw [List.length_set,bW]; omega),List.getElem?_set_self (by rw [bW]; omega)]
  rfl
 have t2 : HT[hh'.length + 1]? = some (objOf (foundR [q,q] s heads d 0)) := by
  rw [← hHT]
  unfold thawG
  rw [List.getElem?_append_right (by rw [List.length_set,bW]; omega),List.length_set,bW]
  simp
 intro a' ρ' w' ft' A' R' hu' hm'
 have hc : aA pl20t prog (J2 prog W0 Post) 75 h.length 20 ct20t yp4 (codeOf f20) [] (aq prog [.tmp 6,.tmp 7] h.length K) = aq prog [.tmp 6,.tmp 7] h.length K := by kernel_rfl
 have tl : Sem (J2 prog W0 Post) 75 h.length 20 (aw yp4 (codeOf f20)) f2 HT (aq prog [.tmp 6,.tmp 7] h.length K) := by
  rw [← hc]
  exact bH hJ2 mixed _ (tail20 hJ2 ds2 r13 t1 t2 S hA)
 have up : Env.upto h.length ρ ρ' := by
  have h1 := M2.S.1
  rw [hlh] at h1
  refine Env.bG (Env.dQ hu1 h1) (Env.bG (Env.dQ hu2 (by omega)) (Env.bG (Env.dQ hu3 (by omega)) (Env.dQ hu' ?_)))
  show h.length ≤ hh'.length + 2
  omega
 exact tl b a' k fs LL ρ' FC w' _ hb hk hL A' R' (by rw [← hlh]; exact S.1) fun e f2 h2' ρ2 w2 ft2 a2 q q1 q2 q3 q4 => hcont e f2 h2' ρ2 w2 ft2 a2 q q1 q2 (Env.bG up q3) q4
end
end Go.Proofs.YtlhanfcgdfjhjaaGreatDoor
namespace Go.Proofs.YtlhanfcgdfjhjaaGreatDoor
open Go.Conc Go.Proofs.Tryz
set_option maxRecDepth 100000
set_option maxHeartbeats 4000000
set_option linter.unusedVariables false
section
variable {main : Bool} {J : JT} {n0 : Nat} {h : List af} {K : Value → List af → Prop}
theorem at18 : prog.funcs[18]? = some f18 := by kernel_rfl
theorem body18 : f18.body = some (codeOf f18) := by kernel_rfl
def pl18 : bj := [(12,true,.take 0 (.take 1 (.take 2 (.take 3 (.take 4 (.fin))))))]
def ct18 : bB := .go
theorem pok18 : aC prog pl18 (codeOf f18) = true := by kernel_rfl
theorem e18 {a0 a1 a2 : Value} : W prog J 45 h.length 18 (codeOf f18) (RG.mk (ax [a0,a1,a2]) []) h (aq prog [.tmp 6,.tmp 7,.tmp 8] h.length K) =
(cq a0 h fun v1 h2 =>
cq a1 h2 fun v3 h4 =>
cq a2 h4 fun v5 h6 =>
ai true 6 v1 h6 fun v7 =>
ai false 1 v3 h6 fun v8 =>
ai true 3 v5 h6 fun v9 =>
Good prog J 40 [v7,v8,v9] h6 fun v10 h11 =>
aj prog .neq 35 v10 (ab 0) fun v12 =>
cnd v12
(aI h.length K [] [(Value.string { data := #[] }),(ab 0),v10] h11)
(bo [(Value.string { data := #[] })] h11 fun v13 h14 =>
bo [(ab 0)] h14 fun v15 h16 =>
aB 1 v13 (Value.string { data := #[] }) h16 fun h17 =>
aB 1 v15 (ab (-1)) h17 fun h18 =>
ai true 3 v5 h18 fun v19 =>
Good prog J 42 [v19] h18 fun v20 h21 =>
Sem J 45 h.length 18 (aw yp1 (codeOf f18)) ((((((((((((((((((RG.mk (ax [a0,a1,a2]) []).p 3 v1).p 4 v3).p 5 v5).p 6 (Value.string { data := #[] })).p 7 (ab 0)).p 8 (ab 0)).p 14 v7).p 15 v8).p 16 v9).p 17 v10).p 9 v10).p 18 v10).p 19 v12).p 10 v13).p 11 v15).p 21 v19).p 22 v20) h21 (aA pl18 prog J 45 h.length 18 ct18 yp1 (codeOf f18) [] (aq prog [.tmp 6,.tmp 7,.tmp 8] h.length K)))) := aT pok18 ct18 (by kernel_rfl)
theorem g18 (hJ : Closed prog main J) {a0 a1 a2 : Value} (hs : aD h → W prog J 45 h.length 18 (codeOf f18) (RG.mk (ax [a0,a1,a2]) []) h (aq prog [.tmp 6,.tmp 7,.tmp 8] h.length K)) : Good prog J 18 [a0,a1,a2] h K :=
 az hJ mixed at18 body18 (by kernel_rfl) (Nat.le_of_ble_eq_true rfl) hs
theorem a18_1 {f : RG} {fr : FuncId} {Q : QT} : W prog J 45 n0 fr (aw yp3 (codeOf f18)) f h Q =
(Q .normal (f.p 12 (f.r 23)) h) := sub_eq pok18 ct18 (by kernel_rfl)
theorem b18_1 {f : RG} {fr : FuncId} {Q : QT} : W prog J 45 n0 fr (aw [1,1,1,0,1,0,1] (codeOf f18)) f h Q =
(ai true 6 (f.r 3) h fun v1 =>
ai false 1 (f.r 4) h fun v2 =>
Good prog J 43 [v1,v2,(f.r 12)] h fun v3 h4 =>
aj prog .geq 3 v3 (ab 0) fun v5 =>
cnd v5
(ai false 1 (f.r 11) h4 fun v6 =>
aj prog .lss 3 v6 (ab 0) fun v7 =>
cnd v7
(aB 1 (f.r 10) (f.r 12) h4 fun h8 =>
aB 1 (f.r 11) v3 h8 fun h9 =>
Q .normal ((((((((((((((((((((f.p 24 v1).p 25 v2).p 26 (f.r 12)).p 27 v3).p 13 v3).p 28 v3).p 29 v5).p 30 v5).p 30 (Value.bool true)).p 31 v6).p 32 v7).p 33 v7).p 33 (Value.bool true)).p 34 undef).p 35 undef).p 36 undef).p 37 (Value.bool true)).p 38 (Value.bool true)).p 39 (f.r 12)).p 40 v3) h9)
(ai false 1 (f.r 11) h4 fun v10 =>
aj prog .lss 3 v3 v10 fun v11 =>
cnd v11
(aB 1 (f.r 10) (f.r 12) h4 fun h12 =>
aB 1 (f.r 11) v3 h12 fun h13 =>
Q .normal ((((((((((((((((((((f.p 24 v1).p 25 v2).p 26 (f.r 12)).p 27 v3).p 13 v3).p 28 v3).p 29 v5).p 30 v5).p 30 (Value.bool true)).p 31 v6).p 32 v7).p 33 v7).p 33 (Value.bool false)).p 34 v3).p 35 v10).p 36 v11).p 37 v11).p 38 v11).p 39 (f.r 12)).p 40 v3) h13)
(Q .normal ((((((((((((((((((f.p 24 v1).p 25 v2).p 26 (f.r 12)).p 27 v3).p 13 v3).p 28 v3).p 29 v5).p 30 v5).p 30 (Value.bool true)).p 31 v6).p 32 v7).p 33 v7).p 33 (Value.bool false)).p 34 v3).p 35 v10).p 36 v11).p 37 v11).p 38 v11) h4)))
(Q .normal (((((((((((((((((f.p 24 v1).p 25 v2).p 26 (f.r 12)).p 27 v3).p 13 v3).p 28 v3).p 29 v5).p 30 v5).p 30 (Value.bool false)).p 31 undef).p 32 undef).p 33 undef).p 34 undef).p 35 undef).p 36 undef).p 37 undef).p 38 (Value.bool false)) h4)) := sub_eq pok18 ct18 (by kernel_rfl)
theorem c18_1 {f : RG} : (aA pl18 prog J 45 n0 18 ct18 yp1 (codeOf f18) [] (aq prog [.tmp 6,.tmp 7,.tmp 8] n0 K)) .normal f h =
(ai false 1 (f.r 11) h fun v1 =>
aj prog .lss 3 v1 (ab 0) fun v2 =>
cnd v2
(aI n0 K f.ds [(Value.string { data := #[] }),(ab 0),(ab 11)] h)
(ai false 1 (f.r 10) h fun v3 =>
ai false 1 (f.r 11) h fun v4 =>
aI n0 K f.ds [v3,v4,(ab 0)] h)) := by kernel_rfl
theorem l18_1 (hJ : Closed prog main J) {f : RG} {g : FuncId} {first cap : List Value} (hx : ev f.r ((Go.Operand.tmp 22)) = .func (.func g) ⟨first⟩ ⟨cap⟩) (hg : g < prog.funcs.size)
 (hs : Good prog J g (first ++ [.func (.yield (h.length + 1)) ⟨[]⟩ ⟨[]⟩] ++ cap) (h ++ [.deferred] ++ [.loop .ready none 18 f.r 45 #[23] (aw yp3 (codeOf f18)) (aw [1,1,1,0,1,0,1] (codeOf f18)) h.length]) (endQ h.length f (aA pl18 prog J 45 n0 18 ct18 yp1 (codeOf f18) [] (aq prog [.tmp 6,.tmp 7,.tmp 8] n0 K)))) (hcall : cB prog g = true := by kernel_rfl) : Sem J 45 n0 18 (aw yp1 (codeOf f18)) f h (aA pl18 prog J 45 n0 18 ct18 yp1 (codeOf f18) [] (aq prog [.tmp 6,.tmp 7,.tmp 8] n0 K)) :=
 Sem_range hJ (by decide) (fop := (Go.Operand.tmp 22)) (params := #[23]) (assign := aw yp3 (codeOf f18)) (body := aw [1,1,1,0,1,0,1] (codeOf f18)) hx hg hs hcall
end
section
variable {main : Bool} {J : JT} {n0 : Nat} {h : List af} {K : Value → List af → Prop}
theorem at40 : prog.funcs[40]? = some f40 := by kernel_rfl
theorem body40 : f40.body = some (codeOf f40) := by kernel_rfl
def pl40 : bj := [(1,false,.take 0 (.take 2 (.last 1 true (.last 3 true (.last 4 true (.last 5 true (.take 6 (.fin))))))))]
def ct40 : bB := .go
theorem pok40 : aC prog pl40 (codeOf f40) = true := by kernel_rfl
theorem e40 {a0 a1 a2 : Value} : W prog J 21 h.length 40 (codeOf f40) (RG.mk (ax [a0,a1,a2]) []) h (aq prog [.tmp 6] h.length K) =
(cq a0 h fun v1 h2 =>
cq a2 h2 fun v3 h4 =>
(∃ B,ai true 6 v1 h4 fun v5 =>
aR (some B) (au v1) ∧ (ai true 3 v3 h4 fun v6 =>
aR (some B) (au v3) ∧ (Good prog J 27 [v5] h4 fun v7 h8 =>
aG (some B) h4 h8 ∧ (Good prog J 28 [v6] h8 fun v9 h10 =>
aG (some B) h4 h10 ∧ ((((2 * 1 : Nat) ≤ 16777216 ∧ (2 : Nat) ≤ 16777216 ∧ List.length [(ab 0)] = 1) ∧ aH (aV [(ab 0)] 2) [(0,1,v7),(1,1,v9)] fun c11 =>
aX 2 c11 h10 fun v12 h13 =>
aG (some B) h4 h13 ∧ (Good prog J 26 [v12] h13 fun v14 h15 =>
aG (some B) h4 h15 ∧ (aj prog .neq 35 v14 (ab 0) fun v16 =>
cnd v16
(aI h.length K [] [v14] h15)
(aL v3 0 fun v17 =>
ai false 1 v17 h15 fun v18 =>
Good prog J 67 [a1,v18] h15 fun v19 h20 =>
aI h.length K [] [v19] h20)))))))))) := aT pok40 ct40 (by kernel_rfl)
theorem g40 (hJ : Closed prog main J) {a0 a1 a2 : Value} (hs : aD h → W prog J 21 h.length 40 (codeOf f40) (RG.mk (ax [a0,a1,a2]) []) h (aq prog [.tmp 6] h.length K)) : Good prog J 40 [a0,a1,a2] h K :=
 az hJ mixed at40 body40 (by kernel_rfl) (Nat.le_of_ble_eq_true rfl) hs
end
section
variable {main : Bool} {J : JT} {n0 : Nat} {h : List af} {K : Value → List af → Prop}
theorem at45 : prog.funcs[45]? = some f45 := by kernel_rfl
theorem body45 : f45.body = some (codeOf f45) := by kernel_rfl
def pl45 : bj := [(14,false,.take 0 (.take 1 (.take 2 (.take 3 (.take 4 (.take 5 (.take 6 (.take 7 (.take 8 (.last 9 true (.take 10 (.take 11 (.take 12 (.take 13 (.take 14 (.fin))))))))))))))))]
def ct45 : bB := .go
theorem pok45 : aC prog pl45 (codeOf f45) = true := by kernel_rfl
theorem e45 {a0 a1 a2 a3 a4 : Value} : W prog J 60 h.length 45 (codeOf f45) (RG.mk (ax [a0,a1,a2,a3,a4]) []) h (aq prog [.tmp 10] h.length K) =
(cq a0 h fun v1 h2 =>
cq a1 h2 fun v3 h4 =>
cq a3 h4 fun v5 h6 =>
cq a4 h6 fun v7 h8 =>
aL v3 0 fun v9 =>
ai false 1 v9 h8 fun v10 =>
((List.length [(ab 0)] = 1 ∧ (8 : Nat) ≤ 1024) ∧ aMkS [(ab 0)] v10 v10 h8 fun v11 h12 =>
bo [(Value.slice none 0 0)] h12 fun v13 h14 =>
aB 1 v13 v11 h14 fun h15 =>
ai false 1 v7 h15 fun v16 =>
Sem J 60 h.length 45 (aw [1,0,1,0,1,0] (codeOf f45)) ((((((((((((RG.mk (ax [a0,a1,a2,a3,a4]) []).p 5 v1).p 6 v3).p 8 v5).p 9 v7).p 10 (Value.bool false)).p 19 v9).p 20 v10).p 21 v11).p 11 v13).p 22 v16).p 23 (ab 0)) h15 (aA pl45 prog J 60 h.length 45 ct45 [1,0,1,0,1,0] (codeOf f45) [] (aq prog [.tmp 10] h.length K)))) := aT pok45 ct45 (by kernel_rfl)
theorem g45 (hJ : Closed prog main J) {a0 a1 a2 a3 a4 : Value} (hs : aD h → W prog J 60 h.length 45 (codeOf f45) (RG.mk (ax [a0,a1,a2,a3,a4]) []) h (aq prog [.tmp 10] h.length K)) : Good prog J 45 [a0,a1,a2,a3,a4] h K :=
 az hJ mixed at45 body45 (by kernel_rfl) (Nat.le_of_ble_eq_true rfl) hs
theorem s45_1 {f : RG} {nx0 : RG → List af → Prop} : W prog J 60 n0 45 (aw [1,0,1,0,1,0,0] (codeOf f45)) f h (bc nx0 (aA pl45 prog J 60 n0 45 ct45 [1,0,1,0,1,0] (codeOf f45) [] (aq prog [.tmp 10] n0 K))) =
(aj prog .lss 3 (f.r 23) (f.r 22) fun v1 =>
cnd v1
(ai false 1 (f.r 11) h fun v2 =>
ai false 1 (f.r 8) h fun v3 =>
aj prog .add 3 v3 (f.r 23) fun v4 =>
bT 1 v2 v4 fun v5 =>
aB 1 v5 (f.r 2) h fun h6 =>
aj prog .add 3 (f.r 23) (ab 1) fun v7 =>
nx0 (((((((((((f.p 24 v1).p 25 (f.r 23)).p 12 (f.r 23)).p 26 v2).p 27 v3).p 28 (f.r 23)).p 29 v4).p 30 (f.r 2)).p 31 v5).p 32 v7).p 23 v7) h6)
(bo [(Value.bool false)] h fun v8 h9 =>
aB 1 v8 (Value.bool true) h9 fun h10 =>
ai true 3 (f.r 6) h10 fun v11 =>
Good prog J 42 [v11] h10 fun v12 h13 =>
Sem J 60 n0 45 (aw yp11 (codeOf f45)) ((((f.p 24 v1).p 13 v8).p 33 v11).p 34 v12) h13 (aA pl45 prog J 60 n0 45 ct45 yp11 (codeOf f45) [] (aq prog [.tmp 10] n0 K)))) := sub_eq pok45 ct45 (by kernel_rfl)
theorem l45_1 (hJ : Closed prog main J) {S : Type} (μ : S → Nat) (I : S → RG → List af → Prop) (hI : ∀ s f h,I s f h → aD h → n0 ≤ h.length → W prog J 60 n0 45 (aw [1,0,1,0,1,0,0] (codeOf f45)) f h (bc (Nx n0 μ I s) (aA pl45 prog J 60 n0 45 ct45 [1,0,1,0,1,0] (codeOf f45) [] (aq prog [.tmp 10] n0 K))))
 {s : S} {f : RG} (hi : dJ n0 I s f h) : Sem J 60 n0 45 (aw [1,0,1,0,1,0] (codeOf f45)) f h (aA pl45 prog J 60 n0 45 ct45 [1,0,1,0,1,0] (codeOf f45) [] (aq prog [.tmp 10] n0 K)) :=
 bn hJ mixed (b := aw [1,0,1,0,1,0,0] (codeOf f45)) (by kernel_rfl) μ I hI hi
theorem a45_2 {f : RG} {fr : FuncId} {Q : QT} : W prog J 60 n0 fr (aw [1,0,1,1,1,1,0,1,0,0] (codeOf f45)) f h Q =
(Q .normal (f.p 14 (f.r 35)) h) := sub_eq pok45 ct45 (by kernel_rfl)
theorem b45_2 {f : RG} {fr : FuncId} {Q : QT} : W prog J 60 n0 fr (aw yp12 (codeOf f45)) f h Q =
(ai true 6 (f.r 5) h fun v1 =>
Good prog J 68 [v1] h fun v2 h3 =>
ai false 1 (f.r 8) h3 fun v4 =>
ai false 1 (f.r 9) h3 fun v5 =>
aj prog .add 3 v4 v5 fun v6 =>
Sem J 60 n0 fr (aw [1,0,1,1,1,1,0,1,0,1,0,1,1,0] (codeOf f45)) (((((((f.p 36 v1).p 37 v2).p 15 v2).p 38 v4).p 39 v5).p 40 v6).p 41 (ab 0)) h3 (aA pl45 prog J 60 n0 fr .go [0,1,1,0] (aw yp12 (codeOf f45)) [] Q)) := sub_eq pok45 ct45 (by kernel_rfl)
theorem c45_2x2 {f : RG} : (aA pl45 prog J 60 n0 45 ct45 yp11 (codeOf f45) [] (aq prog [.tmp 10] n0 K)) (.exit 2) f h =
(ai false 1 (f.r 13) h fun v1 =>
aI n0 K f.ds [v1] h) := by kernel_rfl
theorem c45_2 {f : RG} : (aA pl45 prog J 60 n0 45 ct45 yp11 (codeOf f45) [] (aq prog [.tmp 10] n0 K)) .normal f h =
(ai false 1 (f.r 13) h fun v1 =>
aI n0 K f.ds [v1] h) := by kernel_rfl
theorem l45_2 (hJ : Closed prog main J) {f : RG} {g : FuncId} {first cap : List Value} (hx : ev f.r ((Go.Operand.tmp 34)) = .func (.func g) ⟨first⟩ ⟨cap⟩) (hg : g < prog.funcs.size)
 (hs : Good prog J g (first ++ [.func (.yield (h.length + 1)) ⟨[]⟩ ⟨[]⟩] ++ cap) (h ++ [.deferred] ++ [.loop .ready none 45 f.r 60 #[35] (aw [1,0,1,1,1,1,0,1,0,0] (codeOf f45)) (aw yp12 (codeOf f45)) h.length]) (endQ h.length f (aA pl45 prog J 60 n0 45 ct45 yp11 (codeOf f45) [] (aq prog [.tmp 10] n0 K)))) (hcall : cB prog g = true := by kernel_rfl) : Sem J 60 n0 45 (aw yp11 (codeOf f45)) f h (aA pl45 prog J 60 n0 45 ct45 yp11 (codeOf f45) [] (aq prog [.tmp 10] n0 K)) :=
 Sem_range hJ (by decide) (fop := (Go.Operand.tmp 34)) (params := #[35]) (assign := aw [1,0,1,1,1,1,0,1,0,0] (codeOf f45)) (body := aw yp12 (codeOf f45)) hx hg hs hcall
theorem s45_3 {f : RG} {fr : FuncId} {Q : QT} {nx0 : RG → List af → Prop} : W prog J 60 n0 fr (aw [1,0,1,1,1,1,0,1,0,1,0,1,1,0,0] (codeOf f45)) f h (bc nx0 (aA pl45 prog J 60 n0 fr .go [0,1,1,0] (aw yp12 (codeOf f45)) [] Q)) =
(aj prog .lss 3 (f.r 41) (f.r 40) fun v1 =>
cnd v1
((∃ B,ai false 1 (f.r 11) h fun v2 =>
aR (some B) (au (f.r 11)) ∧ (bT 1 v2 (f.r 41) fun v3 =>
ai false 1 v3 h fun v4 =>
aR (some B) (au v3) ∧ (bX (f.r 14) (f.r 41) fun v5 =>
aj prog .eql 5 v5 (Value.int .u8 119) fun v6 =>
Good prog J 69 [(f.r 15),v4,v6] h fun v7 h8 =>
aG (some B) h h8 ∧ (bL v7 0 fun v9 =>
bL v7 1 fun v10 =>
cnd v9
(aB 1 (f.r 13) (Value.bool false) h8 fun h11 =>
Q (.exit 2) (((((((((((((((((((f.p 42 v1).p 43 (f.r 41)).p 16 (f.r 41)).p 45 (f.r 15)).p 46 v2).p 47 (f.r 41)).p 48 v3).p 49 v4).p 50 (f.r 14)).p 51 (f.r 41)).p 52 v5).p 53 v6).p 54 v7).p 44 v7).p 55 v9).p 56 v10).p 17 v9).p 18 v10).p 57 v9) h11)
(aj prog .add 3 (f.r 41) (ab 1) fun v12 =>
nx0 (((((((((((((((((((((f.p 42 v1).p 43 (f.r 41)).p 16 (f.r 41)).p 45 (f.r 15)).p 46 v2).p 47 (f.r 41)).p 48 v3).p 49 v4).p 50 (f.r 14)).p 51 (f.r 41)).p 52 v5).p 53 v6).p 54 v7).p 44 v7).p 55 v9).p 56 v10).p 17 v9).p 18 v10).p 57 v9).p 58 v12).p 41 v12) h8))))))
(Q .normal (f.p 42 v1) h)) := sub_eq pok45 ct45 (by kernel_rfl)
theorem l45_3 (hJ : Closed prog main J) {fr : FuncId} {Q : QT} {S : Type} (μ : S → Nat) (I : S → RG → List af → Prop) (hI : ∀ s f h,I s f h → aD h → n0 ≤ h.length → W prog J 60 n0 fr (aw [1,0,1,1,1,1,0,1,0,1,0,1,1,0,0] (codeOf f45)) f h (bc (Nx n0 μ I s) (aA pl45 prog J 60 n0 fr .go [0,1,1,0] (aw yp12 (codeOf f45)) [] Q)))
 {s : S} {f : RG} (hi : dJ n0 I s f h) : Sem J 60 n0 fr (aw [1,0,1,1,1,1,0,1,0,1,0,1,1,0] (codeOf f45)) f h (aA pl45 prog J 60 n0 fr .go [0,1,1,0] (aw yp12 (codeOf f45)) [] Q) :=
 bn hJ mixed (b := aw [1,0,1,1,1,1,0,1,0,1,0,1,1,0,0] (codeOf f45)) (by kernel_rfl) μ I hI hi
theorem at43 : prog.funcs[43]? = some f43 := by kernel_rfl
theorem body43 : f43.body = some (codeOf f43) := by kernel_rfl
def pl43 : bj := [(5,true,.take 0 (.take 1 (.take 2 (.take 3 (.take 4 (.take 5 (.take 6 (.take 7 (.take 8 (.last 9 false (.take 10 (.take 11 (.take 12 (.take 13 (.take 14 (.fin))))))))))))))))]
def ct43 : bB := .go
theorem pok43 : aC prog pl43 (codeOf f43) = true := by kernel_rfl
theorem e43 {a0 a1 a2 : Value} : W prog J 34 h.length 43 (codeOf f43) (RG.mk (ax [a0,a1,a2]) []) h (aq prog [.tmp 6] h.length K) =
(cq a0 h fun v1 h2 =>
ai true 6 v1 h2 fun v3 =>
Good prog J 68 [v3] h2 fun v4 h5 =>
bA a2 fun v6 =>
Sem J 34 h.length 43 (aw yp0 (codeOf f43)) (((((((((RG.mk (ax [a0,a1,a2]) []).p 3 v1).p 6 (ab 0)).p 11 v3).p 12 v4).p 7 v4).p 13 a2).p 14 v6).p 15 (ab 0)) h5 (aA pl43 prog J 34 h.length 43 ct43 yp0 (codeOf f43) [] (aq prog [.tmp 6] h.length K))) := aT pok43 ct43 (by kernel_rfl)
theorem g43 (hJ : Closed prog main J) {a0 a1 a2 : Value} (hs : aD h → W prog J 34 h.length 43 (codeOf f43) (RG.mk (ax [a0,a1,a2]) []) h (aq prog [.tmp 6] h.length K)) : Good prog J 43 [a0,a1,a2] h K :=
 az hJ mixed at43 body43 (by kernel_rfl) (Nat.le_of_ble_eq_true rfl) hs
theorem s43_1 {f : RG} {nx0 : RG → List af → Prop} : W prog J 34 n0 43 (aw yp2 (codeOf f43)) f h (bc nx0 (aA pl43 prog J 34 n0 43 ct43 yp0 (codeOf f43) [] (aq prog [.tmp 6] n0 K))) =
(aj prog .lss 3 (f.r 15) (f.r 14) fun v1 =>
cnd v1
(bT 1 (f.r 1) (f.r 15) fun v2 =>
ai false 1 v2 h fun v3 =>
bX (f.r 2) (f.r 15) fun v4 =>
aj prog .eql 5 v4 (Value.int .u8 119) fun v5 =>
Good prog J 69 [(f.r 7),v3,v5] h fun v6 h7 =>
bL v6 0 fun v8 =>
bL v6 1 fun v9 =>
cnd v8
(aI n0 K f.ds [(f.r 15)] h7)
(aj prog .add 3 (f.r 15) (ab 1) fun v10 =>
nx0 (((((((((((((((((((((f.p 16 v1).p 17 (f.r 15)).p 8 (f.r 15)).p 19 (f.r 7)).p 20 (f.r 1)).p 21 (f.r 15)).p 22 v2).p 23 v3).p 24 (f.r 2)).p 25 (f.r 15)).p 26 v4).p 27 v5).p 28 v6).p 18 v6).p 29 v8).p 30 v9).p 9 v8).p 10 v9).p 31 v8).p 33 v10).p 15 v10) h7))
(aI n0 K f.ds [(ab (-1))] h)) := sub_eq pok43 ct43 (by kernel_rfl)
theorem l43_1 (hJ : Closed prog main J) {S : Type} (μ : S → Nat) (I : S → RG → List af → Prop) (hI : ∀ s f h,I s f h → aD h → n0 ≤ h.length → W prog J 34 n0 43 (aw yp2 (codeOf f43)) f h (bc (Nx n0 μ I s) (aA pl43 prog J 34 n0 43 ct43 yp0 (codeOf f43) [] (aq prog [.tmp 6] n0 K))))
 {s : S} {f : RG} (hi : dJ n0 I s f h) : Sem J 34 n0 43 (aw yp0 (codeOf f43)) f h (aA pl43 prog J 34 n0 43 ct43 yp0 (codeOf f43) [] (aq prog [.tmp 6] n0 K)) :=
 bn hJ mixed (b := aw yp2 (codeOf f43)) (by kernel_rfl) μ I hI hi
theorem at19 : prog.funcs[19]? = some f19 := by kernel_rfl
theorem body19 : f19.body = some (codeOf f19) := by kernel_rfl
def pl19 : bj := [(1,false,.take 0 (.take 2 (.last 1 true (.last 3 true (.last 4 true (.last 5 true (.take 6 (.fin))))))))]
def ct19 : bB := .bin (.go) (.bin (.go) (.bin (.go) (.bin (.go) (.bin (.go) (.bin (.un (.un (.bin (.bin (.go) (.cut (.go))) (.go)))) (.go))))))
theorem pok19 : aC prog pl19 (codeOf f19) = true := by kernel_rfl
abbrev w19 (J : JT) (n0 : Nat) (p : List Nat) (f : RG) (h : List af) (l : List (RG → List af → Prop)) (K : Value → List af → Prop) : Prop := W prog J 48 n0 19 (aw p (codeOf f19)) f h (aA pl19 prog J 48 n0 19 ct19 p (codeOf f19) l (aq prog [.tmp 8,.tmp 9] n0 K))
theorem e19 {a0 a1 a2 a3 : Value} : W prog J 48 h.length 19 (codeOf f19) (RG.mk (ax [a0,a1,a2,a3]) []) h (aq prog [.tmp 8,.tmp 9] h.length K) =
(cq a0 h fun v1 h2 =>
cq a1 h2 fun v3 h4 =>
(∃ B,ai true 6 v1 h4 fun v5 =>
aR (some B) (au v1) ∧ (ai true 3 v3 h4 fun v6 =>
aR (some B) (au v3) ∧ (Good prog J 27 [v5] h4 fun v7 h8 =>
aG (some B) h4 h8 ∧ (Good prog J 28 [v6] h8 fun v9 h10 =>
aG (some B) h4 h10 ∧ ((((2 * 1 : Nat) ≤ 16777216 ∧ (2 : Nat) ≤ 16777216 ∧ List.length [(ab 0)] = 1) ∧ aH (aV [(ab 0)] 2) [(0,1,v7),(1,1,v9)] fun c11 =>
aX 2 c11 h10 fun v12 h13 =>
aG (some B) h4 h13 ∧ (Good prog J 26 [v12] h13 fun v14 h15 =>
aG (some B) h4 h15 ∧ (aj prog .neq 35 v14 (ab 0) fun v16 =>
cnd v16
(aI h.length K [] [(ab 0),v14] h15)
(aL v3 0 fun v17 =>
ai false 1 v17 h15 fun v18 =>
aj prog .sub 3 v18 (ab 1) fun v19 =>
Good prog J 44 [a2,(ab 0),v19] h15 fun v20 h21 =>
aUn .not v20 fun v22 =>
cnd v22
(aI h.length K [] [(ab 0),(ab 3)] h21)
(aL v3 0 fun v23 =>
ai false 1 v23 h21 fun v24 =>
aj prog .sub 3 v24 a2 fun v25 =>
Good prog J 44 [a3,(ab 1),v25] h21 fun v26 h27 =>
aUn .not v26 fun v28 =>
cnd v28
(aI h.length K [] [(ab 0),(ab 1)] h27)
(Sem J 48 h.length 19 (aw [1,1,1,1,1,0,0] (codeOf f19)) ((((((((((((((((((((((((((((RG.mk (ax [a0,a1,a2,a3]) []).p 4 v1).p 5 v3).p 8 (ab 0)).p 9 (ab 0)).p 12 v5).p 14 v6).p 13 v7).p 15 v9).p 16 v12).p 17 v14).p 10 v14).p 18 v14).p 19 v16).p 21 a2).p 22 v17).p 23 v18).p 24 v19).p 25 v20).p 26 v22).p 27 a3).p 28 v23).p 29 v24).p 30 a2).p 31 v25).p 32 v26).p 33 v28).p 11 (ab 40)) h27 (aA pl19 prog J 48 h.length 19 ct19 [1,1,1,1,1,0,0] (codeOf f19) [] (aq prog [.tmp 8,.tmp 9] h.length K)))))))))))))) := aT pok19 ct19 (by kernel_rfl)
theorem g19 (hJ : Closed prog main J) {a0 a1 a2 a3 : Value} (hs : aD h → W prog J 48 h.length 19 (codeOf f19) (RG.mk (ax [a0,a1,a2,a3]) []) h (aq prog [.tmp 8,.tmp 9] h.length K)) : Good prog J 19 [a0,a1,a2,a3] h K :=
 az hJ mixed at19 body19 (by kernel_rfl) (Nat.le_of_ble_eq_true rfl) hs
theorem s19_1 {f : RG} {nx0 : RG → List af → Prop} : W prog J 48 n0 19 (aw [1,1,1,1,1,0,0,0] (codeOf f19)) f h (bc nx0 (aA pl19 prog J 48 n0 19 ct19 [1,1,1,1,1,0,0] (codeOf f19) [] (aq prog [.tmp 8,.tmp 9] n0 K))) =
(aj prog .gtr 3 (f.r 11) (ab 0) fun v1 =>
cnd v1
(ai true 6 (f.r 4) h fun v2 =>
ai true 3 (f.r 5) h fun v3 =>
Good prog J 45 [v2,v3,(f.r 11),(f.r 2),(f.r 3)] h fun v4 h5 =>
aUn .not v4 fun v6 =>
bh (w19 J n0 yp24 ((((((((((((f.p 34 (f.r 11)).p 35 v1).p 36 v1).p 36 (Value.bool true)).p 37 v2).p 38 v3).p 39 (f.r 11)).p 40 (f.r 2)).p 41 (f.r 3)).p 42 v4).p 43 v6).p 44 v6) h5 [nx0] K))
(bh (w19 J n0 yp24 ((((((((((((f.p 34 (f.r 11)).p 35 v1).p 36 v1).p 36 (Value.bool false)).p 37 undef).p 38 undef).p 39 undef).p 40 undef).p 41 undef).p 42 undef).p 43 undef).p 44 (Value.bool false)) h [nx0] K))) := sub_eq pok19 ct19 (by kernel_rfl)
theorem l19_1 (hJ : Closed prog main J) {S : Type} (μ : S → Nat) (I : S → RG → List af → Prop) (hI : ∀ s f h,I s f h → aD h → n0 ≤ h.length → W prog J 48 n0 19 (aw [1,1,1,1,1,0,0,0] (codeOf f19)) f h (bc (Nx n0 μ I s) (aA pl19 prog J 48 n0 19 ct19 [1,1,1,1,1,0,0] (codeOf f19) [] (aq prog [.tmp 8,.tmp 9] n0 K))))
 {s : S} {f : RG} (hi : dJ n0 I s f h) : Sem J 48 n0 19 (aw [1,1,1,1,1,0,0] (codeOf f19)) f h (aA pl19 prog J 48 n0 19 ct19 [1,1,1,1,1,0,0] (codeOf f19) [] (aq prog [.tmp 8,.tmp 9] n0 K)) :=
 bn hJ mixed (b := aw [1,1,1,1,1,0,0,0] (codeOf f19)) (by kernel_rfl) μ I hI hi
theorem s19_2 {f : RG} {nx0 : RG → List af → Prop} : w19 J n0 yp24 f h [nx0] K =
(cnd (f.r 44)
(aj prog .sub 3 (f.r 11) (ab 1) fun v1 =>
nx0 (((f.p 45 (f.r 11)).p 46 v1).p 11 v1) h)
(aI n0 K f.ds [(f.r 11),(ab 0)] h)) := sub_eq pok19 ct19 (by kernel_rfl)
end
end Go.Proofs.YtlhanfcgdfjhjaaGreatDoor
namespace Go.Proofs.YtlhanfcgdfjhjaaGreatDoor
def ay (w : List UInt8) : Value := .string ⟨⟨w⟩⟩
end Go.Proofs.YtlhanfcgdfjhjaaGreatDoor
namespace Go.Proofs.YtlhanfcgdfjhjaaGreatDoor
open Go.Conc Go.Proofs.Tryz
set_option maxRecDepth 100000
set_option maxHeartbeats 4000000
set_option linter.unusedVariables false
section
variable {main : Bool} {J : JT} {n0 : Nat} {h : List af} {K : Value → List af → Prop}
theorem at42 : prog.funcs[42]? = some f42 := by kernel_rfl
theorem body42 : f42.body = some (codeOf f42) := by kernel_rfl
def pl42 : bj := []
def ct42 : bB := .go
theorem pok42 : aC prog pl42 (codeOf f42) = true := by kernel_rfl
theorem e42 {a0 : Value} : W prog J 4 h.length 42 (codeOf f42) (RG.mk (ax [a0]) []) h (aq prog [.tmp 2] h.length K) =
(cq a0 h fun v1 h2 =>
aMkF 72 [] [v1] fun v3 =>
aI h.length K [] [v3] h2) := aT pok42 ct42 (by kernel_rfl)
theorem g42 (hJ : Closed prog main J) {a0 : Value} (hs : aD h → W prog J 4 h.length 42 (codeOf f42) (RG.mk (ax [a0]) []) h (aq prog [.tmp 2] h.length K)) : Good prog J 42 [a0] h K :=
 az hJ mixed at42 body42 (by kernel_rfl) (Nat.le_of_ble_eq_true rfl) hs
theorem at72 : prog.funcs[72]? = some f72 := by kernel_rfl
theorem body72 : f72.body = some (codeOf f72) := by kernel_rfl
def pl72 : bj := [(3,false,.take 0 (.take 1 (.take 2 (.take 4 (.last 3 true (.last 5 true (.fin)))))))]
def ct72 : bB := .go
theorem pok72 : aC prog pl72 (codeOf f72) = true := by kernel_rfl
theorem e72 {a0 a1 : Value} : W prog J 11 h.length 72 (codeOf f72) (RG.mk (ax [a0,a1]) []) h (aq prog [] h.length K) =
(cq a0 h fun v1 h2 =>
bo [(Value.nilFunc)] h2 fun v3 h4 =>
aMkF 73 [] [a1,v1,v3] fun v5 =>
aB 1 v3 v5 h4 fun h6 =>
(∃ B,ai false 1 v3 h6 fun v7 =>
aR (some B) (au v3) ∧ (aL a1 0 fun v8 =>
ai false 1 v8 h6 fun v9 =>
aR (some B) (au v8) ∧ (aH [(Value.int .u8 0),(ab 0)] [] fun c10 =>
((List.length [(Value.int .u8 0)] = 1 ∧ (1 : Nat) ≤ 1024) ∧ aMkS [(Value.int .u8 0)] (ab 0) v9 h6 fun v11 h12 =>
aG (some B) h6 h12 ∧ (dC prog (Good prog J) v7 [v11,(Value.agg ⟨c10⟩)] h12 fun v13 h14 =>
aG (some B) h6 h14 ∧ (aI h.length K [] [] h14))))))) := aT pok72 ct72 (by kernel_rfl)
theorem g72 (hJ : Closed prog main J) {a0 a1 : Value} (hs : aD h → W prog J 11 h.length 72 (codeOf f72) (RG.mk (ax [a0,a1]) []) h (aq prog [] h.length K)) : Good prog J 72 [a0,a1] h K :=
 az hJ mixed at72 body72 (by kernel_rfl) (Nat.le_of_ble_eq_true rfl) hs
theorem at73 : prog.funcs[73]? = some f73 := by kernel_rfl
theorem body73 : f73.body = some (codeOf f73) := by kernel_rfl
def pl73 : bj := [(7,false,.take 0 (.take 1 (.take 2 (.take 3 (.take 4 (.take 7 (.last 5 true (.last 6 true (.last 8 false (.take 9 (.take 10 (.fin))))))))))))]
def ct73 : bB := .bin (.go) (.bin (.go) (.bin (.bin (.go) (.un (.un (.bin (.go) (.bin (.go) (.bin (.un (.bin (.go) (.bin (.go) (.bin (.go) (.cut (.go)))))) (.go))))))) (.go)))
theorem pok73 : aC prog pl73 (codeOf f73) = true := by kernel_rfl
abbrev w73 (J : JT) (n0 : Nat) (p : List Nat) (f : RG) (h : List af) (l : List (RG → List af → Prop)) (K : Value → List af → Prop) : Prop := W prog J 44 n0 73 (aw p (codeOf f73)) f h (aA pl73 prog J 44 n0 73 ct73 p (codeOf f73) l (aq prog [.tmp 7] n0 K))
theorem e73 {a0 a1 a2 a3 a4 : Value} : W prog J 44 h.length 73 (codeOf f73) (RG.mk (ax [a0,a1,a2,a3,a4]) []) h (aq prog [.tmp 7] h.length K) =
(cq a1 h fun v1 h2 =>
b0 a0 fun v3 =>
aL a2 0 fun v4 =>
ai false 1 v4 h2 fun v5 =>
aj prog .eql 3 v3 v5 fun v6 =>
cnd v6
(ai false 1 a3 h2 fun v7 =>
ee a0 h2 fun v8 =>
dC prog (Good prog J) v7 [v8] h2 fun v9 h10 =>
aI h.length K [] [v9] h10)
(aH [(Value.int .u8 0),(Value.int .u8 0)] [(0,1,(Value.int .u8 100)),(1,1,(Value.int .u8 119))] fun c11 =>
Sem J 44 h.length 73 (aw yp0 (codeOf f73)) ((((((((((RG.mk (ax [a0,a1,a2,a3,a4]) []).p 6 v1).p 7 (Value.bool false)).p 12 a0).p 13 v3).p 14 v4).p 15 v5).p 16 v6).p 21 (Value.agg ⟨c11⟩)).p 22 (ab 0)) h2 (aA pl73 prog J 44 h.length 73 ct73 yp0 (codeOf f73) [] (aq prog [.tmp 7] h.length K)))) := aT pok73 ct73 (by kernel_rfl)
theorem g73 (hJ : Closed prog main J) {a0 a1 a2 a3 a4 : Value} (hs : aD h → W prog J 44 h.length 73 (codeOf f73) (RG.mk (ax [a0,a1,a2,a3,a4]) []) h (aq prog [.tmp 7] h.length K)) : Good prog J 73 [a0,a1,a2,a3,a4] h K :=
 az hJ mixed at73 body73 (by kernel_rfl) (Nat.le_of_ble_eq_true rfl) hs
theorem s73_1 {f : RG} {nx0 : RG → List af → Prop} : W prog J 44 n0 73 (aw yp2 (codeOf f73)) f h (bc nx0 (aA pl73 prog J 44 n0 73 ct73 yp0 (codeOf f73) [] (aq prog [.tmp 7] n0 K))) =
(aj prog .lss 3 (f.r 22) (ab 2) fun v1 =>
cnd v1
(aIdxV 2 1 false (f.r 21) (f.r 22) fun v2 =>
ai true 2 (f.r 6) h fun v3 =>
ai true 3 (f.r 2) h fun v4 =>
Good prog J 74 [v3,v4,v2] h fun v5 h6 =>
bL v5 0 fun v7 =>
bL v5 1 fun v8 =>
bo [(Value.int .u8 0),(ab 0)] h6 fun v9 h10 =>
aB 2 v9 v7 h10 fun h11 =>
(∃ B,cnd v8
(ai false 1 (f.r 4) h11 fun v12 =>
aR (some B) (au (f.r 4)) ∧ (ai true 2 v9 h11 fun v13 =>
aR (some B) (au v9) ∧ ((((1 * 1 : Nat) ≤ 16777216 ∧ (1 : Nat) ≤ 16777216 ∧ List.length [(Value.int .u8 0)] = 1) ∧ aH (aV [(Value.int .u8 0)] 1) [(0,1,v2)] fun c14 =>
aX 1 c14 h11 fun v15 h16 =>
aG (some B) h11 h16 ∧ (((List.length [(Value.int .u8 0)] = 1 ∧ 0 < (1 : Nat) ∧ 0 < (1 : Nat) ∧ (1 : Nat) ≤ 1024) ∧ aApp 1 (f.r 0) v15 h16 fun v17 h18 =>
aG (some B) h11 h18 ∧ (dC prog (Good prog J) v12 [v17,v13] h18 fun v19 h20 =>
aUn .not v19 fun v21 =>
bh (w73 J n0 yp5 ((((((((((((((((((((((((f.p 23 v1).p 24 v2).p 9 v2).p 26 v3).p 27 v4).p 28 v2).p 29 v5).p 25 v5).p 30 v7).p 31 v8).p 10 v9).p 11 v8).p 32 v8).p 33 v8).p 33 (Value.bool true)).p 34 v12).p 35 (f.r 0)).p 36 v2).p 39 v13).p 37 v15).p 38 v17).p 40 v19).p 41 v21).p 42 v21) h20 [nx0] K))))))))
(bh (w73 J n0 yp5 ((((((((((((((((((((((((f.p 23 v1).p 24 v2).p 9 v2).p 26 v3).p 27 v4).p 28 v2).p 29 v5).p 25 v5).p 30 v7).p 31 v8).p 10 v9).p 11 v8).p 32 v8).p 33 v8).p 33 (Value.bool false)).p 34 undef).p 35 undef).p 36 undef).p 39 undef).p 37 undef).p 38 undef).p 40 undef).p 41 undef).p 42 (Value.bool false)) h11 [nx0] K))))
(aI n0 K f.ds [(Value.bool true)] h)) := sub_eq pok73 ct73 (by kernel_rfl)
theorem l73_1 (hJ : Closed prog main J) {S : Type} (μ : S → Nat) (I : S → RG → List af → Prop) (hI : ∀ s f h,I s f h → aD h → n0 ≤ h.length → W prog J 44 n0 73 (aw yp2 (codeOf f73)) f h (bc (Nx n0 μ I s) (aA pl73 prog J 44 n0 73 ct73 yp0 (codeOf f73) [] (aq prog [.tmp 7] n0 K))))
 {s : S} {f : RG} (hi : dJ n0 I s f h) : Sem J 44 n0 73 (aw yp0 (codeOf f73)) f h (aA pl73 prog J 44 n0 73 ct73 yp0 (codeOf f73) [] (aq prog [.tmp 7] n0 K)) :=
 bn hJ mixed (b := aw yp2 (codeOf f73)) (by kernel_rfl) μ I hI hi
theorem s73_2 {f : RG} {nx0 : RG → List af → Prop} : w73 J n0 yp5 f h [nx0] K =
(cnd (f.r 42)
(aI n0 K f.ds [(Value.bool false)] h)
(aj prog .add 3 (f.r 22) (ab 1) fun v1 =>
nx0 ((f.p 43 v1).p 22 v1) h)) := sub_eq pok73 ct73 (by kernel_rfl)
end
end Go.Proofs.YtlhanfcgdfjhjaaGreatDoor
namespace Go.Proofs.YtlhanfcgdfjhjaaGreatDoor
open Go.Conc Go.Proofs.Tryz
set_option maxRecDepth 100000
def bV (b : UInt8) : Value := .int .u8 b.toNat
theorem kn_bV (w : List UInt8) : kn (w.map bV) = true := by
 simp [kn,kn1,bV]
theorem bytes_bV : ∀ w : List UInt8,bytesOf (w.map bV) = some w
 | [] => rfl
 | b :: w => by
  show (match byteOf (bV b),bytesOf (w.map bV) with
   | some b,some bs => some (b :: bs)
   | _,_ => none) = _
  rw [bytes_bV w]
  have : byteOf (bV b) = some b := by
   show some (UInt8.ofNat ((b.toNat : Nat) : Int).toNat) = some b
   rw [Int.toNat_natCast,UInt8.ofNat_toNat]
  rw [this]
def growF (ps py pg : Nat) : Value := .func (.func 73) ⟨[]⟩ ⟨[ptr ps 0,ptr py 0,ptr pg 0]⟩
def TillZ (n : Nat) (O : List Nat) (h H : List af) : Prop := h.length ≤ H.length ∧ ∀ i,i < n ∨ i ∈ O → H[i]? = h[i]?
structure Rnd (J : JT) (L : List (List UInt8)) (y : Value) (X : List Nat) (Hs : List af) (I : Nat → List Nat → List af → Prop) (St : List af → Prop) : Prop where
 hX : ∀ x ∈ X,x < Hs.length
 hO : ∀ {k O H'},I k O H' → ∀ x ∈ O,x < H'.length
 hI : ∀ {k O H1 H2},TillZ Hs.length O H1 H2 → I k O H1 → I k O H2
 round : ∀ (k : Nat) (w : List UInt8) (O : List Nat) (H1 : List af) (Q : Value → List af → Prop),L[k]? = some w → ag X Hs H1 → (∀ x ∈ O,Hs.length ≤ x) → I k O H1 → (∀ O' H2,ag (X ++ O) H1 H2 → (∀ x ∈ O',x ∈ O ∨ H1.length ≤ x) → I (k + 1) O' H2 → Q (.bool true) H2) → (∀ H2,ag (X ++ O) H1 H2 → St H2 → Q (.bool false) H2) → dC prog (Good prog J) y [ay w] H1 Q
section
variable {main : Bool} {J : JT} {h H : List af} {K : Value → List af → Prop} {KV : Value → Prop} {HL : List af → Prop} {n0 : Nat}
theorem strI {b n m : Nat} {cs : List Value} {wr : Bool} {sz : Nat} {w : List UInt8} (hb : H[b]? = some (.cells cs wr sz)) (hn : w.length = n) (ht : cs.take n = w.map bV) (hk : KV (ay w)) : ee (.slice (some ⟨b,0,none⟩) n m) H KV := by
 unfold ee
 simp only [hb]
 have hl : n ≤ cs.length := by
  have := congrArg List.length ht
  simp at this
  omega
 refine ⟨by omega,?_⟩
 rw [List.drop_zero,ht,bytes_bV]
 exact hk
theorem appB {b k m : Nat} {cs : List Value} {v y : Value} (hb : H[b]? = some (.cells cs true 0)) (hl : cs.length = m) (hk : k < m) (hm : m < 1000) (hc : kn (cs.take k) = true) (hy : Sli H y 1 1 [v])
 (hK : ∀ H',ag [b] H H' → H'[b]? = some (.cells (cs.set k v) true 0) → H'.length = H.length → K (.slice (some ⟨b,0,none⟩) (k + 1) m) H') : aApp 1 (.slice (some ⟨b,0,none⟩) k m) y H K := appIn hb hl hk hm hc hy hK
theorem good73 (hJ : Closed prog main J) {s : aU} {L : List (List UInt8)} {y : Value} {X : List Nat} {Hs : List af} {I : Nat → List Nat → List af → Prop} {St : List af → Prop} (R : Rnd J L y X Hs I St) (ky : y.cells = #[y] ∧ one y = true ∧ kn1 y = true)
  {ps py pg pb m : Nat} (hm : m ≤ 8) (hdays : s.days = (m : Int)) (cs0 : Hs[ps]? = some (.cells s.cells true 0)) (nX : ps ∉ X) (n1 : Hs.length ≤ py) (n2 : Hs.length ≤ pg) (n3 : Hs.length ≤ pb) (d1 : pb ≠ py) (d2 : pb ≠ pg) :
  ∀ (left : Nat) (w : List UInt8) (x : Spl) (k : Nat) (O : List Nat) (cs : List Value) {H : List af} {K : Value → List af → Prop},
  w.length + left = m → 0 ≤ x.2 ∧ x.2 ≤ 100 + w.length → (∀ j,j < (growB s left w x).length → L[k + j]? = (growB s left w x)[j]?) →
  ag X Hs H → H[py]? = some (.cells [y] true 0) → H[pg]? = some (.cells [growF ps py pg] true 0) → H[pb]? = some (.cells cs true 0) → cs.length = m → cs.take w.length = w.map bV →
  I k O H → (∀ z ∈ O,Hs.length ≤ z ∧ z ≠ py ∧ z ≠ pg ∧ z ≠ pb) →
  (∀ H' O' cs',ag (pb :: (X ++ O)) H H' → (∀ z ∈ O',z ∈ O ∨ H.length ≤ z) → H'[pb]? = some (.cells cs' true 0) → cs'.length = m → cs'.take w.length = w.map bV → I (k + (growB s left w x).length) O' H' → K (.bool true) H') →
  (∀ H',ag (pb :: (X ++ O)) H H' → St H' → K (.bool false) H') →
  Good prog J 73 [.slice (some ⟨pb,0,none⟩) w.length m,.agg ⟨spC x⟩,ptr ps 0,ptr py 0,ptr pg 0] H K
 | 0,w,x,k,O,cs,H,K,hwl,hx,hL,S0,cy,cg,cb,hcl,htk,ik,hO,hK1,hK2 => by
  refine g73 hJ fun ok => ?_
  rw [e73]
  refine dk (l := spC x) rfl fun H1 p1 e1 S1 c1 l1 => ?_
  have lps := ah cs0
  have cps := S0.get cs0 nX
  have hs : Sli H1 (.slice (some ⟨pb,0,none⟩) w.length m) 1 w.length (w.map bV) := ⟨_,_,rfl,⟨by simp,kn_bV w⟩,.inr ⟨pb,0,rfl,.inr ⟨cs,true,0,S1.get cb (by simp),by simpa using htk⟩⟩⟩
  refine lenI hs (aQ (ldI (v := ab s.days) (S1.get cps (by simp)) rfl rfl (eqlI (ba (fun _ => ?_) fun hne => absurd (by rw [hdays]; congr 1) hne))))
  refine ldI (v := y) (S1.get cy (by simp)) rfl ky.2.2 (strI (S1.get cb (by simp)) rfl htk ?_)
  have hS0 := S0.1
  have hlH := ah cb
  have u : ∀ {H2 : List af},ag (X ++ O) H1 H2 → ag (pb :: (X ++ O)) H H2 := fun S => (S1.bN.trans (S.weak fun x hx => List.mem_cons_of_mem _ hx))
  have n4 : pb ∉ X ++ O := by
   intro hz
   rcases List.mem_append.1 hz with hz | hz
   ·have := R.hX _ hz
    omega
   ·exact (hO _ hz).2.2.2 rfl
  refine R.round k w O H1 _ (by have := hL 0 (by simp [growB]); simpa [growB] using this) (S0.bq S1.bN (Y := X) fun _ h => .inl h) (fun z hz => (hO z hz).1) (R.hI ⟨S1.1,fun i hi => S1.2 i (by rcases hi with hi | hi; omega; exact R.hO ik i hi) (by simp)⟩ ik) (fun O' H2 S2 hO' i2 => ?_) fun H2 S2 st => ?_
  ·exact ao (by simp [unk]) (hK1 H2 O' cs (u S2) (fun z hz => (hO' z hz).imp id fun h => by have := S1.1; omega) (S2.get (S1.get cb (by simp)) n4) hcl htk i2)
  ·exact ao (by simp [unk]) (hK2 H2 (u S2) st)
 | left + 1,w,x,k,O,cs,H,K,hwl,hx,hL,S0,cy,cg,cb,hcl,htk,ik,hO,hK1,hK2 => by
  refine g73 hJ fun ok => ?_
  rw [e73]
  have hfz : (1000 : Nat) < fz := by decide
  refine dk (l := spC x) rfl fun Ha p1 e1 S1 c1 l1 => ?_
  have lps := ah cs0
  have hs : Sli Ha (.slice (some ⟨pb,0,none⟩) w.length m) 1 w.length (w.map bV) := ⟨_,_,rfl,⟨by simp,kn_bV w⟩,.inr ⟨pb,0,rfl,.inr ⟨cs,true,0,S1.get cb (by simp),by simpa using htk⟩⟩⟩
  have hS0 := S0.1
  have lpb := ah cb
  have lpy := ah cy
  have lpg := ah cg
  refine lenI hs (aQ (ldI (v := ab s.days) (S1.get (S0.get cs0 nX) (by simp)) rfl rfl (eqlI (ba (fun he => absurd he (by rw [hdays]; omega)) fun _ => ?_))))
  refine aK (l := [bV 100]) rfl rfl rfl (by decide) (aK (l := [bV 119]) rfl rfl rfl (by rw [aW]; decide) (bu ?_))
  -- what both letters come to
  let A : List (List UInt8) := if dV s x 100 = true then growB s left (w ++ [100]) (cP x 100) else []
  let B : List (List UInt8) := if dV s x 119 = true then growB s left (w ++ [119]) (cP x 119) else []
  have hAB : growB s (left + 1) w x = A ++ B := rfl
  let off : Nat → Nat := fun i => if i = 0 then 0 else if i = 1 then A.length else A.length + B.length
  refine l73_1 hJ (fun i : Nat => 2 - i) (fun i F H' => ∃ O' cs',i ≤ 2 ∧ ag (pb :: (X ++ O)) Ha H' ∧ (∀ z ∈ O',z ∈ O ∨ Ha.length ≤ z) ∧ H'[pb]? = some (.cells cs' true 0) ∧ cs'.length = m ∧ cs'.take w.length = w.map bV ∧ I (k + off i) O' H' ∧
    F.ds = [] ∧ F.r 0 = .slice (some ⟨pb,0,none⟩) w.length m ∧ F.r 2 = ptr ps 0 ∧ F.r 4 = ptr pg 0 ∧ F.r 6 = ptr p1 0 ∧ F.r 21 = .agg ⟨[bV 100,bV 119]⟩ ∧ F.r 22 = ab (i : Nat)) ?_ (s := 0)
   (.inl ⟨O,cs,by omega,ag.refl,fun z hz => .inl hz,S1.get cb (by simp),hcl,htk,R.hI ⟨S1.1,fun i hi => S1.2 i (by rcases hi with hi | hi; omega; exact R.hO ik i hi) (by simp)⟩ ik,rfl,rfl,rfl,rfl,rfl,rfl,rfl⟩)
  rintro i F Hc ⟨O1,cs1,hi,Sc,hO1,cb1,hcl1,htk1,ik1,ds,r0,r2,r4,r6,r21,r22⟩ okc hnc
  rw [s73_1,r0,r2,r4,r6,r21,r22,ds]
  have hSc := Sc.1
  have hOo : ∀ z ∈ O1,Hs.length ≤ z ∧ z ≠ py ∧ z ≠ pg ∧ z ≠ pb ∧ z ≠ p1 := fun z hz => by
   rcases hO1 z hz with h | h
   ·have := hO z h
    have := R.hO ik z h
    omega
   ·omega
  have notin : ∀ q,q < Hs.length → q ∉ X → q ∉ pb :: (X ++ O) := fun q h1 h2 hm' => by
   rcases List.mem_cons.1 hm' with hz | hz
   ·omega
   ·rcases List.mem_append.1 hz with hz | hz
    ·exact h2 hz
    ·have := (hO _ hz).1
     omega
  have notin2 : ∀ q,Hs.length ≤ q → q ≠ pb → q ∉ O → q ∉ pb :: (X ++ O) := fun q h1 h2 h3 hm' => by
   rcases List.mem_cons.1 hm' with hz | hz
   ·exact h2 hz
   ·rcases List.mem_append.1 hz with hz | hz
    ·have := R.hX _ hz
     omega
    ·exact h3 hz
  have cpsc := Sc.get (S1.get (S0.get cs0 nX) (by simp)) (notin ps lps nX)
  have cyc := Sc.get (S1.get cy (by simp)) (notin2 py n1 (by omega) (fun hz => (hO _ hz).2.1 rfl))
  have cgc := Sc.get (S1.get cg (by simp)) (notin2 pg n2 (by omega) (fun hz => (hO _ hz).2.2.1 rfl))
  have c1c := Sc.get c1 (notin2 p1 (by omega) (by omega) (fun hz => by have := R.hO ik _ hz; omega))
  have T1 : ag (pb :: (X ++ O)) H Hc := (S1.bN).trans Sc
  refine dh (ba (fun hlt => ?_) fun hge => ?_)
  rotate_left
  ·have : i = 2 := by omega
   subst this
   refine ao (by simp [unk]) (hK1 Hc O1 cs1 T1 (fun z hz => (hO1 z hz).imp id fun h => by have := S1.1; omega) cb1 hcl1 htk1 ?_)
   rw [hAB,List.length_append]
   exact ik1
  have hi2 : i < 2 := by omega
  obtain ⟨c,hc,hcv⟩ : ∃ c : UInt8,(c = 100 ∧ i = 0 ∨ c = 119 ∧ i = 1) ∧ [bV 100,bV 119][i]? = some (bV c) := by
   rcases (by omega : i = 0 ∨ i = 1) with h | h
   ·exact ⟨100,.inl ⟨rfl,h⟩,by rw [h]; rfl⟩
   ·exact ⟨119,.inr ⟨rfl,h⟩,by rw [h]; rfl⟩
  -- the part of this letter
  let P : List (List UInt8) := if dV s x c = true then growB s left (w ++ [c]) (cP x c) else []
  have hP : off (i + 1) = off i + P.length ∧ ∀ j,j < P.length → L[k + off i + j]? = P[j]? := by
   rcases hc with ⟨h1,h2⟩ | ⟨h1,h2⟩
   ·subst h1 h2
    refine ⟨by show A.length = 0 + A.length; omega,fun j hj => ?_⟩
    have hj : j < A.length := hj
    have := hL j (by rw [hAB,List.length_append]; omega)
    rw [hAB,List.getElem?_append_left hj] at this
    exact this
   ·subst h1 h2
    refine ⟨rfl,fun j hj => ?_⟩
    have hj : j < B.length := hj
    have := hL (A.length + j) (by rw [hAB,List.length_append]; omega)
    rw [hAB,List.getElem?_append_right (by omega),Nat.add_sub_cancel_left] at this
    show L[k + A.length + j]? = B[j]?
    rw [Nat.add_assoc]
    exact this
  have hidx : aIdxV 2 1 false (.agg ⟨[bV 100,bV 119]⟩) (ab (i : Nat)) = fun KI => KI (bV c) := by
   funext KI
   rcases hc with ⟨h1,h2⟩ | ⟨h1,h2⟩ <;> subst h1 h2 <;> exact propext ⟨fun h => h.2,fun h => ⟨⟨by decide,by decide⟩,h⟩⟩
  rw [hidx]
  refine ar (c := spC x) c1c (by simp [spC]) rfl rfl (ar (c := s.cells) cpsc (by simp [aU.cells]) rfl rfl ?_)
  refine good74 hJ (by omega) fun H2 S2 => ext0 (ext1 (qAl fun H3 p9 e3 S3 c3 l3 => da (c := spC (cP x c)) c3 rfl rfl rfl fun H4 S4 c4 l4 => ?_))
  have hS2 := S2.1
  have T4 : ag [] Hc H4 := (S2.trans S3).bq S4 (by simp; omega)
  have hT4 := T4.1
  have ik4 : I (k + off i) O1 H4 := R.hI ⟨T4.1,fun j hj => T4.2 j (by rcases hj with hj | hj; omega; exact R.hO ik1 j hj) (by simp)⟩ ik1
  -- behind this letter
  have next : ∀ {F' : RG} {H5 : List af} {O5 : List Nat} {cs5 : List Value},F'.ds = [] → F'.r 0 = .slice (some ⟨pb,0,none⟩) w.length m → F'.r 2 = ptr ps 0 → F'.r 4 = ptr pg 0 → F'.r 6 = ptr p1 0 → F'.r 21 = .agg ⟨[bV 100,bV 119]⟩ → F'.r 22 = ab (i : Nat) → F'.r 42 = .bool false →
    ag (pb :: (X ++ O1)) H4 H5 → (∀ z ∈ O5,z ∈ O1 ∨ H4.length ≤ z) → H5[pb]? = some (.cells cs5 true 0) → cs5.length = m → cs5.take w.length = w.map bV → I (k + off (i + 1)) O5 H5 →
    w73 J H.length yp5 F' H5 [Nx H.length (fun i : Nat => 2 - i) (fun i F H' => ∃ O' cs',i ≤ 2 ∧ ag (pb :: (X ++ O)) Ha H' ∧ (∀ z ∈ O',z ∈ O ∨ Ha.length ≤ z) ∧ H'[pb]? = some (.cells cs' true 0) ∧ cs'.length = m ∧ cs'.take w.length = w.map bV ∧ I (k + off i) O' H' ∧
    F.ds = [] ∧ F.r 0 = .slice (some ⟨pb,0,none⟩) w.length m ∧ F.r 2 = ptr ps 0 ∧ F.r 4 = ptr pg 0 ∧ F.r 6 = ptr p1 0 ∧ F.r 21 = .agg ⟨[bV 100,bV 119]⟩ ∧ F.r 22 = ab (i : Nat)) i] K := by
   intro F' H5 O5 cs5 ds r0 r2 r4 r6 r21 r22 r42 S5 hO5 cb5 hcl5 htk5 ik5
   rw [s73_2,r42,r22]
   refine aP.2 (ck (by omega) ⟨i + 1,by dsimp only; omega,.inl ⟨O5,cs5,by omega,?_,fun z hz => ?_,cb5,hcl5,htk5,ik5,ds,r0,r2,r4,r6,r21,by show ab _ = ab _; congr 1⟩⟩)
   ·refine (Sc.bq (T4.bN (Y := pb :: (X ++ O))) fun _ h => .inl h).bq S5 fun z hz => ?_
    rcases List.mem_cons.1 hz with hz | hz
    ·exact .inl (by rw [hz]; exact List.mem_cons_self)
    ·rcases List.mem_append.1 hz with hz | hz
     ·exact .inl (List.mem_cons_of_mem _ (List.mem_append_left _ hz))
     ·rcases hO1 z hz with h | h
      ·exact .inl (List.mem_cons_of_mem _ (List.mem_append_right _ h))
      ·exact .inr h
   ·rcases hO5 z hz with h | h
    ·exact hO1 z h
    ·exact .inr (by omega)
  have cb4 := T4.get cb1 (by simp)
  have cg4 := T4.get cgc (by simp)
  have lg4 := ah cg4
  have l9 : p9 < H4.length := ah c4
  refine ⟨[pg,p9],cndB (fun hyes => ?_) fun hno => hold.2 ?_⟩
  rotate_left
  ·have hP0 : P.length = 0 := by show (if dV s x c = true then _ else []).length = 0; rw [hno]; rfl
   refine next ds r0 r2 r4 r6 r21 r22 rfl ag.refl (fun z hz => .inl hz) cb4 hcl1 htk1 ?_
   rw [hP.1,hP0]
   exact ik4
  have hPe : P = growB s left (w ++ [c]) (cP x c) := by show (if dV s x c = true then _ else []) = _; rw [if_pos hyes]
  refine ldI (v := growF ps py pg) cg4 rfl rfl ⟨by simp [aR,au],ar (c := spC (cP x c)) c4 (by simp [spC]) rfl rfl ⟨by simp [aR,au],?_⟩⟩
  refine ⟨by decide,aK (l := [bV c]) rfl rfl rfl (by decide) (bu (du fun H5 p5 e5 S5 c5 l5 => ⟨sbTwo S5 lg4 l9 (by simp) (by simp),by decide,?_⟩))⟩
  have c5 : H5[p5]? = some (.cells [bV c] true 0) := c5
  have y5 := bS (dv (s := 1) (n := 1) (l := [bV c]) c5 rfl rfl)
  refine appB (S5.get cb4 (by simp)) hcl1 (by omega) (by omega) (by rw [htk1]; exact kn_bV w) y5 fun H6 S6 c6 l6 => ?_
  have T6 : ag [pb] H4 H6 := S5.bN.trans S6
  have hT6 := T6.1
  refine ⟨sbTwo T6 lg4 l9 (by simp; omega) (by simp; omega),callCz (by kernel_rfl) ?_⟩
  have hset : (cs1.set w.length (bV c)).take (w.length + 1) = (w ++ [c]).map bV := by
   rw [List.take_add_one,List.take_set_of_le (Nat.le_refl _),htk1,List.getElem?_set_self (by omega)]
   simp
  have hlen : (w ++ [c]).length = w.length + 1 := by simp
  have U6 : ag [pb] Hc H6 := (T4.bN).trans T6
  have nx2 : 0 ≤ (cP x c).2 ∧ (cP x c).2 ≤ 100 + (w.length + 1 : Nat) := by
   unfold cP
   split
   ·exact ⟨by dsimp only; omega,by dsimp only; omega⟩
   ·exact ⟨by dsimp only; omega,by dsimp only; omega⟩
  rw [← hlen]
  refine good73 hJ R ky hm hdays cs0 nX n1 n2 n3 d1 d2 left (w ++ [c]) (cP x c) (k + off i) O1 (cs1.set w.length (bV c)) (by rw [hlen]; omega) (by rw [hlen]; exact nx2) (by rw [← hPe]; exact hP.2)
   ?_ (U6.get cyc (by simp; omega)) (U6.get cgc (by simp; omega)) c6 (by rw [List.length_set,hcl1]) (by rw [hlen]; exact hset)
   (R.hI ⟨by omega,fun j hj => T6.2 j (by rcases hj with hj | hj; omega; exact R.hO ik4 j hj) (by
    rcases hj with hj | hj
    ·simp
     omega
    ·have := hOo j hj
     simp
     omega)⟩ ik4) (fun z hz => by have := hOo z hz; omega) (fun H7 O7 cs7 S7 hO7 c7 hc7 ht7 i7 => ?_) fun H7 S7 st => ?_
  ·refine (S0.bq T1 fun z hz => ?_).bq U6 (by simp; omega)
   rcases List.mem_cons.1 hz with hz | hz
   ·exact .inr (by omega)
   ·rcases List.mem_append.1 hz with hz | hz
    ·exact .inl hz
    ·exact .inr (hO z hz).1
  ·have S47 : ag (pb :: (X ++ O1)) H4 H7 := (T6.weak (by simp)).trans S7
   have tk7 : cs7.take w.length = w.map bV := by
    have : (cs7.take (w.length + 1)).take w.length = cs7.take w.length := by rw [List.take_take,Nat.min_eq_left (by omega)]
    rw [← this,← hlen,ht7,List.map_append]
    simp
   refine dU (hold.2 (next ds r0 r2 r4 r6 r21 r22 rfl S47 (fun z hz => (hO7 z hz).imp id fun h => by omega) c7 hc7 tk7 ?_))
   rw [hP.1,hPe,← Nat.add_assoc]
   exact i7
  ·refine dU (hold.2 ?_)
   rw [s73_2]
   show cnd (.bool true) _ _
   refine bm.2 ?_
   show aI H.length K F.ds [.bool false] H7
   rw [ds]
   have S47 : ag (pb :: (X ++ O1)) Hc H7 := (U6.weak (by simp)).trans S7
   refine ao (by simp [unk]) (hK2 H7 (T1.bq S47 fun z hz => ?_) st)
   rcases List.mem_cons.1 hz with hz | hz
   ·exact .inl (by rw [hz]; exact List.mem_cons_self)
   ·rcases List.mem_append.1 hz with hz | hz
    ·exact .inl (List.mem_cons_of_mem _ (List.mem_append_left _ hz))
    ·rcases hO1 z hz with h | h
     ·exact .inl (List.mem_cons_of_mem _ (List.mem_append_right _ h))
     ·exact .inr (by have := S1.1; omega)
theorem good42 (hJ : Closed prog main J) {s : aU} (hK : ∀ H' ps,ag [] H H' → H'[ps]? = some (.cells s.cells true 0) → H.length ≤ ps → K (.func (.func 72) ⟨[]⟩ ⟨[ptr ps 0]⟩) H') : Good prog J 42 [.agg ⟨s.cells⟩] H K := by
 refine g42 hJ fun ok => ?_
 rw [e42]
 exact dk (l := s.cells) rfl fun H1 p1 e1 S1 c1 l1 => ⟨rfl,ao (by simp [unk]) (hK H1 p1 S1 c1 (by omega))⟩
theorem good72 (hJ : Closed prog main J) {s : aU} (f : cL s) {y : Value} {X : List Nat} {ps : Nat} {I : Nat → List Nat → List af → Prop} {St : List af → Prop} (R : Rnd J (df s) y X H I St) (ky : y.cells = #[y] ∧ one y = true ∧ kn1 y = true)
  (cs0 : H[ps]? = some (.cells s.cells true 0)) (nX : ps ∉ X) (h0 : I 0 [] H)
  (hK1 : ∀ H2 O,ag X H H2 → (∀ z ∈ O,H.length ≤ z) → I (df s).length O H2 → K (.tuple ⟨[]⟩) H2) (hK2 : ∀ H2,ag X H H2 → St H2 → K (.tuple ⟨[]⟩) H2) : Good prog J 72 [y,ptr ps 0] H K := by
 refine g72 hJ fun ok => ?_
 rw [e72]
 obtain ⟨f1,f2,f3⟩ := f
 have lps := ah cs0
 refine qBox1 ky.1 ky.2.1 fun H1 py e1 S1 c1 l1 => qAl fun H2 pg e2 S2 c2 l2 => ⟨rfl,qSt c2 (by simp) rfl rfl fun H3 S3 c3 l3 => ?_⟩
 have c3 : H3[pg]? = some (.cells [growF ps py pg] true 0) := c3
 have T3 : ag [] H H3 := (S1.trans S2).bq S3 (by simp; omega)
 have cy3 := S3.get (S2.get c1 (by simp)) (by simp; omega)
 have cs3 := T3.get cs0 (by simp)
 have lg := ah c3
 have ls3 := ah cs3
 refine ⟨[pg,ps],ldI (v := growF ps py pg) c3 rfl rfl ⟨by simp [aR,au],aQ (ldI (v := ab s.days) cs3 rfl rfl ⟨by simp [aR,au],bu ⟨by decide,?_⟩⟩)⟩⟩
 have hrm : (2000 : Nat) < room := by decide
 refine ⟨by omega,by omega,by omega,?_⟩
 obtain ⟨m,hm⟩ := Int.eq_ofNat_of_zero_le (by omega : (0 : Int) ≤ s.days)
 have em : s.days.toNat = m := by omega
 rw [em]
 generalize hH4 : H3 ++ [af.cells (aV [Value.int .u8 0] m) true 0] = H4
 have c4 : H4[H3.length]? = some (.cells (aV [Value.int .u8 0] m) true 0) := by rw [← hH4]; simp
 have S4 : ag [] H3 H4 := by rw [← hH4]; exact ag.refl.app
 have zl : ∀ n,(aV [Value.int .u8 0] n).length = n := by
  intro n
  induction n with
  | zero => rfl
  | succ n ih => show ([Value.int .u8 0] ++ aV [Value.int .u8 0] n).length = n + 1; rw [List.length_append,ih]; simp; omega
 have T4 : ag [] H H4 := T3.trans S4
 refine ⟨sbTwo S4 lg ls3 (by simp) (by simp),callCz (by kernel_rfl) ?_⟩
 have hT3 := T3.1
 have hr : df s = growB s m [] (0,0) := by unfold df; rw [em]
 have fin : ∀ {H5 : List af} {O : List Nat},ag (H3.length :: (X ++ ([] : List Nat))) H4 H5 → ag X H H5 := fun S5 => by
  refine (T4.bN (Y := X)).bq S5 fun z hz => ?_
  rcases List.mem_cons.1 hz with hz | hz
  ·exact .inr (by omega)
  ·exact .inl (by simpa using hz)
 refine good73 hJ R ky (ps := ps) (py := py) (pg := pg) (pb := H3.length) (m := m) (by omega) hm cs0 nX (by omega) (by omega) (by omega) (by omega) (by omega) m [] (0,0) 0 [] (aV [Value.int .u8 0] m) (by simp) ⟨by decide,by decide⟩ (fun j _ => by rw [hr,Nat.zero_add]) (T4.bN (Y := X)) (S4.get cy3 (by simp)) (S4.get c3 (by simp)) c4 (zl m) rfl
  (R.hI ⟨T4.1,fun i hi => T4.2 i (by rcases hi with hi | hi; exact hi; cases hi) (by simp)⟩ h0) (by simp) (fun H5 O5 cs5 S5 hO5 c5 hc5 ht5 i5 => ?_) fun H5 S5 st => ?_
 ·refine ⟨?_,ao (by simp) (hK1 H5 O5 (fin (O := O5) S5) (fun z hz => by rcases hO5 z hz with h | h; cases h; have := S4.1; omega) ?_)⟩
  ·exact sbTwo (X := H3.length :: (X ++ [])) ((S4.bN).trans S5) lg ls3 (by simp; exact ⟨by omega,fun hz => by have := R.hX _ hz; omega⟩) (by simp; exact ⟨by omega,nX⟩)
  ·rw [hr]
   simpa using i5
 ·refine ⟨?_,ao (by simp) (hK2 H5 (fin (O := []) S5) st)⟩
  exact sbTwo (X := H3.length :: (X ++ [])) ((S4.bN).trans S5) lg ls3 (by simp; exact ⟨by omega,fun hz => by have := R.hX _ hz; omega⟩) (by simp; exact ⟨by omega,nX⟩)
end
def cR (all from_ days : Nat) (n : Int) : List Int := (List.range all).map fun i => if from_ ≤ i ∧ i < from_ + days then n else 0
def fedB (p : Pas) (heads : List Int) (s : aU) : Bool := (df s).all fun w => decide (cH p heads w < 0)
def stayB (p : Pas) (s : aU) (n from_ days : Int) : Bool := fedB p (cR s.days.toNat from_.toNat days.toNat n) s
def topH (q : Int → Bool) : Nat → Int
 | 0 => 0
 | n + 1 => if q ((n + 1 : Nat) : Int) = true then ((n + 1 : Nat) : Int) else topH q n
def headE (p : Pas) (s : aU) (from_ days : Int) : Int :=
 if cQ (bR p) (cd s) ≠ 0 then cQ (bR p) (cd s) else if ¬ (0 ≤ from_ ∧ from_ ≤ s.days - 1) then 3 else if ¬ (1 ≤ days ∧ days ≤ s.days - from_) then 1 else 0
def headN (p : Pas) (s : aU) (from_ days : Int) : Int := if headE p s from_ days = 0 then topH (fun n => stayB p s n from_ days) 40 else 0
theorem stayH_len {a f d : Nat} {n : Int} : (cR a f d n).length = a := by simp [cR]
theorem stayH_get {a f d i : Nat} {n : Int} (h : i < a) : (cR a f d n)[i]? = some (if f ≤ i ∧ i < f + d then n else 0) := by
 unfold cR
 rw [List.getElem?_map,List.getElem?_range h]
 rfl
theorem stayH_getD {a f d i : Nat} {n : Int} (h : i < a) : (cR a f d n).getD i 0 = if f ≤ i ∧ i < f + d then n else 0 := by
 rw [List.getD_eq_getElem?_getD,stayH_get h]
 rfl
theorem stayH_out {a f d i : Nat} {n : Int} (h : f + d ≤ i) : (cR a f d n).getD i 0 = 0 := by
 by_cases e : i < a
 ·rw [stayH_getD e,if_neg (by omega)]
 ·rw [List.getD_eq_getElem?_getD,List.getElem?_eq_none (by rw [stayH_len]; omega)]
  rfl
theorem stayH_zero {a f : Nat} {n : Int} : cR a f 0 n = List.replicate a 0 := by
 apply List.ext_getElem?
 intro i
 by_cases h : i < a
 ·rw [stayH_get h,if_neg (by omega),List.getElem?_replicate,if_pos h]
 ·rw [List.getElem?_eq_none (by rw [stayH_len]; omega),List.getElem?_eq_none (by simp; omega)]
theorem stayH_set {a f d : Nat} {n : Int} (h : f + d < a) : (cR a f d n).set (f + d) n = cR a f (d + 1) n := by
 apply List.ext_getElem?
 intro i
 rw [List.getElem?_set]
 by_cases e : f + d = i
 ·subst e
  rw [if_pos rfl,stayH_len,if_pos h,stayH_get h,if_pos (by omega)]
 ·rw [if_neg e]
  by_cases hi : i < a
  ·rw [stayH_get hi,stayH_get hi]
   congr 1
   by_cases x : f ≤ i ∧ i < f + d
   ·rw [if_pos x,if_pos (by omega)]
   ·rw [if_neg x,if_neg (by omega)]
  ·rw [List.getElem?_eq_none (by rw [stayH_len]; omega),List.getElem?_eq_none (by rw [stayH_len]; omega)]
theorem stayH_ok {a f d : Nat} {n : Int} (h : 0 ≤ n ∧ n ≤ 40) : headsOk (cR a f d n) := by
 intro x hx
 unfold cR at hx
 obtain ⟨i,_,rfl⟩ := List.mem_map.1 hx
 split
 ·exact h
 ·exact ⟨Int.le_refl _,by decide⟩
theorem stay_after {p : Pas} {a f d : Nat} {n : Int} {w : List UInt8} (fp : cA p) (hn : 0 ≤ n ∧ n ≤ 40) {i : Nat} (h : f + d ≤ i) : hungAt p (cR a f d n) w i = false := by
 unfold hungAt hungR
 rw [stayH_out h]
 have := (stdR_ok (rain := w) fp (stayH_ok (a := a) (f := f) (d := d) hn) i).g
 exact decide_eq_false (by omega)
theorem starv_none {p : Pas} {a f d : Nat} {n : Int} {w : List UInt8} (fp : cA p) (hn : 0 ≤ n ∧ n ≤ 40) (h : ∀ i,i < f + d → hungAt p (cR a f d n) w i = false) : cH p (cR a f d n) w < 0 := by
 have : cH p (cR a f d n) w = -1 := fstH_none fun i _ => by
  by_cases e : i < f + d
  ·exact h i e
  ·exact stay_after fp hn (by omega)
 rw [this]
 decide
theorem starv_some {p : Pas} {heads : List Int} {w : List UInt8} {i : Nat} (hi : i < w.length) (h : hungAt p heads w i = true) : ¬ cH p heads w < 0 := by
 have := fstH_pos (q := hungAt p heads w) h hi
 unfold cH
 omega
section
variable {main : Bool} {J : JT} {h H : List af} {K : Value → List af → Prop} {KV : Value → Prop} {HL : List af → Prop} {n0 : Nat}
theorem eqlW {t : TypeId} {b : UInt8} (hk : KV (.bool (wetB b))) : aj prog .eql t (.int .u8 b.toNat) (.int .u8 119) KV := by
 have e119 : (Value.int .u8 119) = .int .u8 (119 : UInt8).toNat := rfl
 rw [e119]
 exact eqlU hk
theorem good43 (hJ : Closed prog main J) {p : Pas} {heads : List Int} {w : List UInt8} {hv : Value} (f : cA p) (hh : headsOk heads) (sh : Sli H hv 1 heads.length (heads.map ab)) (hl : w.length ≤ heads.length) (hw : w.length ≤ 1000)
  (hK : ∀ H',ag [] H H' → K (ab (cH p heads w)) H') : Good prog J 43 [.agg ⟨p.cells⟩,hv,ay w] H K := by
 refine g43 hJ fun ok => ?_
 rw [e43]
 refine dk (l := p.cells) rfl fun H1 p1 e1 S1 c1 l1 => ar (c := p.cells) c1 (by simp [Pas.cells]) rfl rfl ?_
 refine good68 hJ fun H2 m em S2 c2 hm => lenStrI ?_
 refine l43_1 hJ (fun k : Nat => w.length - k) (fun k F H' => k ≤ w.length ∧ ag [] H H' ∧ H'[m]? = some (.cells (medC p (stdR p heads w k)) true 0) ∧ (∀ i,i < k → hungAt p heads w i = false) ∧ F.ds = [] ∧ F.r 1 = hv ∧ F.r 2 = ay w ∧ F.r 7 = ptr m 0 ∧ F.r 14 = ab (w.length : Nat) ∧ F.r 15 = ab (k : Nat)) ?_ (s := 0)
  (.inl ⟨by omega,S1.trans S2,c2,fun i hi => absurd hi (Nat.not_lt_zero _),rfl,rfl,rfl,rfl,rfl,rfl⟩)
 rintro k F H' ⟨hk,S,cm,hno,ds,r1,r2,r7,r14,r15⟩ okc hnc
 rw [s43_1,r1,r2,r7,r14,r15,ds]
 refine dh (ba (fun hlt => ?_) fun hge => ?_)
 rotate_left
 ·have : k = w.length := by omega
  subst this
  have := hK H' S
  unfold cH at this
  rw [fstH_none hno] at this
  exact ao (by simp [unk]) this
 have hkl : k < w.length := by omega
 have hx : heads[k]? = some (heads.getD k 0) := by
  rw [List.getD_eq_getElem?_getD,List.getElem?_eq_getElem (by omega)]
  rfl
 have hb : w[k]? = some (w.getD k 0) := by
  rw [List.getD_eq_getElem?_getD,List.getElem?_eq_getElem hkl]
  rfl
 have hbd := headsOk_getD hh k
 refine sliN (S.sli sh (by simp)) hx fun q => byteI hb (eqlW ?_)
 refine good69 hJ cm f (stdR_ok f hh k) ⟨hbd.1,by omega⟩ fun H3 S3 c3 => ext0 (ext1 (cndB (fun hy => ?_) fun hn => ?_))
 ·have e : cH p heads w = (k : Int) := fstH_some hy hno hkl
  have := hK H3 (S.bq S3 (by simp; omega))
  rw [e] at this
  exact ao (by simp [unk]) this
 ·refine ck (by omega) ⟨k + 1,by dsimp only; omega,.inl ⟨by omega,S.bq S3 (by simp; omega),c3,fun i hi => ?_,ds,r1,r2,r7,r14,by show ab _ = ab _; congr 1⟩⟩
  by_cases e : i = k
  ·rw [e]
   exact hn
  ·exact hno i (by omega)
noncomputable abbrev lpS (st : LoopState) (pend : Option Code) (r : Nat → Value) (d : Nat) : af := .loop st pend 45 r 60 #[35] (aw [1,0,1,1,1,1,0,1,0,0] (codeOf f45)) (aw yp12 (codeOf f45)) d
theorem roundS (hJ : Closed prog main J) {l d p5 p8 p9 p11 p13 pl a fr dy : Nat} {R : Nat → Value} {p : Pas} {n : Int} {w : List UInt8} {Q : Value → List af → Prop} (f : cA p) (hn : 0 ≤ n ∧ n ≤ 40) (ha : a ≤ 8) (hfd : fr + dy ≤ a) (hw : w.length = a)
  (hl : H[l]? = some (lpS .ready none R d)) (r5 : R 5 = ptr p5 0) (r8 : R 8 = ptr p8 0) (r9 : R 9 = ptr p9 0) (r11 : R 11 = ptr p11 0) (r13 : R 13 = ptr p13 0)
  (c5 : H[p5]? = some (.cells p.cells true 0)) (c8 : H[p8]? = some (.cells [ab (fr : Nat)] true 0)) (c9 : H[p9]? = some (.cells [ab (dy : Nat)] true 0)) (c11 : H[p11]? = some (.cells [.slice (some ⟨pl,0,none⟩) a a] true 0)) (cl : H[pl]? = some (.cells ((cR a fr dy n).map ab) true 0)) (c13 : H[p13]? = some (.cells [.bool true] true 0))
  (n5 : p5 ≠ l) (n8 : p8 ≠ l) (n9 : p9 ≠ l) (n11 : p11 ≠ l) (n13 : p13 ≠ l) (nl : pl ≠ l)
  (k1 : ∀ H',cH p (cR a fr dy n) w < 0 → ag [l] H H' → H'[l]? = some (lpS .ready none R d) → Q (.bool true) H')
  (k2 : ∀ H',¬ cH p (cR a fr dy n) w < 0 → ag [l,p13] H H' → H'[l]? = some (lpS .done (some (.exit 2)) R d) → H'[p13]? = some (.cells [.bool false] true 0) → Q (.bool false) H') :
  dC prog (Good prog J) (.func (.yield l) ⟨[]⟩ ⟨[]⟩) [ay w] H Q := by
 show Good prog J (yid prog l) [ay w] H Q
 refine good_round hJ hl rfl (by decide) fun ok => bH hJ mixed _ ?_
 rw [a45_2]
 refine ⟨rfl,none,_,_,_,_,_,_,_,hl,bH hJ mixed _ ?_⟩
 rw [b45_2]
 have hll := ah hl
 have hl3 : (H.set l (lpS .busy none R d))[l]? = some (lpS .busy none R d) := List.getElem?_set_self hll
 have S3 : ag [l] H (H.set l (lpS .busy none R d)) := ag.refl.set (.inl (by simp))
 generalize H.set l (lpS .busy none R d) = H3 at hl3 S3
 have hsl := S3.1
 show ai true 6 (R 5) _ _
 rw [r5]
 refine ar (c := p.cells) (S3.get c5 (by simpa using n5)) (by simp [Pas.cells]) rfl rfl ?_
 refine good68 hJ fun H4 m em S4 c4 hm => ?_
 have S04 : ag [l] H H4 := S3.trans S4.bN
 show ai false 1 (R 8) _ _
 rw [r8]
 refine ldI (v := ab (fr : Nat)) (S04.get c8 (by simpa using n8)) rfl rfl ?_
 show ai false 1 (R 9) _ _
 rw [r9]
 refine ldI (v := ab (dy : Nat)) (S04.get c9 (by simpa using n9)) rfl rfl (ck (by omega) ?_)
 have hho := stayH_ok (a := a) (f := fr) (d := dy) hn
 have e5 : ((fr : Nat) : Int) + ((dy : Nat) : Int) = ((fr + dy : Nat) : Int) := by omega
 rw [e5]
 have h3 : H.length ≤ m := by omega
 have hl4 := S4.get hl3 (by simp)
 refine l45_3 hJ (fun k : Nat => fr + dy - k) (fun k F H' => k ≤ fr + dy ∧ ag [m] H4 H' ∧ H'[m]? = some (.cells (medC p (stdR p (cR a fr dy n) w k)) true 0) ∧ (∀ i,i < k → hungAt p (cR a fr dy n) w i = false) ∧ F.r 11 = ptr p11 0 ∧ F.r 13 = ptr p13 0 ∧ F.r 14 = ay w ∧ F.r 15 = ptr m 0 ∧ F.r 40 = ab ((fr + dy : Nat) : Int) ∧ F.r 41 = ab (k : Nat)) ?_ (s := 0)
  (.inl ⟨by omega,ag.refl,c4,fun i hi => absurd hi (Nat.not_lt_zero _),r11,r13,rfl,rfl,rfl,rfl⟩)
 rintro k F H' ⟨hk,S,cm,hno,q11,q13,q14,q15,q40,q41⟩ okc hnc
 rw [s45_3,q11,q13,q14,q15,q40,q41]
 have T : ag [l] H H' := S04.bq S (by simp; omega)
 have hlH : H'[l]? = some (lpS .busy none R d) := S.get hl4 (by simp; omega)
 have hll' := ah hlH
 have d11 := T.get c11 (by simpa using n11)
 have dl := T.get cl (by simpa using nl)
 have l11 := ah c11
 have ll := ah cl
 have hT := T.1
 refine dh (ba (fun hlt => ?_) fun hge => ?_)
 rotate_left
 ·have : k = fr + dy := by omega
  subst this
  refine ⟨.busy,none,_,_,_,_,_,_,_,hlH,.inl (k1 _ (starv_none f hn hno) (T.set (.inl (by simp))) (List.getElem?_set_self hll'))⟩
 have hka : k < a := by omega
 have hb : w[k]? = some (w.getD k 0) := by
  rw [List.getD_eq_getElem?_getD,List.getElem?_eq_getElem (by omega)]
  rfl
 have hbd := headsOk_getD hho k
 refine ⟨[p11,pl],ldI (v := .slice (some ⟨pl,0,none⟩) a a) d11 rfl rfl ⟨by simp [aR,au],idxI ⟨by omega,by omega⟩ ?_⟩⟩
 have hx : ((cR a fr dy n).map ab)[0 + ((k : Nat) : Int).toNat * 1]? = some (ab ((cR a fr dy n).getD k 0)) := by
  rw [Int.toNat_natCast,Nat.mul_one,Nat.zero_add,List.getElem?_map,stayH_get hka,stayH_getD hka]
  rfl
 refine ldI (v := ab ((cR a fr dy n).getD k 0)) dl hx rfl ⟨by simp [aR,au],byteI hb (eqlW ?_)⟩
 refine good69 hJ cm f (stdR_ok f hho k) ⟨hbd.1,by omega⟩ fun H8 S8 c8' => ⟨sbTwo S8 (by omega) (by omega) (by simp; omega) (by simp; omega),ext0 (ext1 (cndB (fun hy => ?_) fun hno' => ?_))⟩
 ·have T8 : ag [l] H H8 := T.bq S8 (by simp; omega)
  refine qSt (T8.get c13 (by simpa using n13)) (by simp) rfl rfl fun H9 S9 c9' l9 => ?_
  have hl8 := S8.get hlH (by simp; omega)
  have hl9 := S9.get hl8 (by simpa using n13.symm)
  have hll9 := ah hl9
  refine ⟨.busy,none,_,_,_,_,_,_,_,hl9,.inl (k2 _ (starv_some (i := k) (by omega) hy) ?_ (List.getElem?_set_self hll9) (cI c9' n13))⟩
  exact ((T8.weak (by simp)).trans (S9.weak (by simp))).set (.inl (by simp))
 ·refine ck (by omega) ⟨k + 1,by dsimp only; omega,.inl ⟨by omega,S.trans S8,c8',fun i hi => ?_,q11,q13,q14,q15,q40,by show ab _ = ab _; congr 1⟩⟩
  by_cases e : i = k
  ·rw [e]
   exact hno'
  ·exact hno i (by omega)
theorem good45 (hJ : Closed prog main J) {p : Pas} {s : aU} {n : Int} {fr dy : Nat} (f : cA p) (g : cL s) (hn : 0 ≤ n ∧ n ≤ 40) (hfd : ((fr + dy : Nat) : Int) ≤ s.days)
  (hK : ∀ H',ag [] H H' → K (.bool (stayB p s n fr dy)) H') : Good prog J 45 [.agg ⟨p.cells⟩,.agg ⟨s.cells⟩,ab n,ab (fr : Nat),ab (dy : Nat)] H K := by
 refine g45 hJ fun ok => ?_
 rw [e45]
 obtain ⟨g1,g2,g3⟩ := id g
 obtain ⟨a,ha⟩ := Int.eq_ofNat_of_zero_le (by omega : (0 : Int) ≤ s.days)
 have ea : s.days.toNat = a := by omega
 refine dk (l := p.cells) rfl fun H1 p5 e1 S1 c5 l1 => dk (l := s.cells) rfl fun H2 p6 e2 S2 c6 l2 => qBox1 rfl rfl fun H3 p8 e3 S3 c8 l3 => qBox1 rfl rfl fun H4 p9 e4 S4 c9 l4 => ?_
 have c64 := S4.get (S3.get c6 (by simp)) (by simp)
 refine aQ (ldI (v := ab s.days) c64 rfl rfl ⟨by decide,?_⟩)
 have hrm : (2000 : Nat) < room := by decide
 refine ⟨by omega,Int.le_refl _,by omega,?_⟩
 rw [ea]
 have zl : ∀ k,aV [ab 0] k = (List.replicate k (0 : Int)).map ab := by
  intro k
  induction k with
  | zero => rfl
  | succ k ih =>
   show [ab 0] ++ aV [ab 0] k = _
   rw [ih,List.replicate_succ]
   rfl
 generalize hH5 : H4 ++ [af.cells (aV [ab 0] a) true 0] = H5
 have c4l : H5[H4.length]? = some (.cells ((cR a fr 0 n).map ab) true 0) := by rw [← hH5,zl,stayH_zero]; simp
 have S5 : ag [] H4 H5 := by rw [← hH5]; exact ag.refl.app
 have hl5 : H5.length = H4.length + 1 := by rw [← hH5]; simp
 generalize hpl : H4.length = pl at c4l hl5
 refine qAl fun H6 p11 e6 S6 c11 l6 => qSt c11 (by simp) rfl rfl fun H7 S7 c11' l7 => ?_
 have c11' : H7[p11]? = some (.cells [.slice (some ⟨pl,0,none⟩) a a] true 0) := c11'
 have S57 : ag [] H5 H7 := S6.bq S7 (by simp; omega)
 have S47 : ag [] H4 H7 := S5.trans S57
 have T7 : ag [] H H7 := (((S1.trans S2).trans S3).trans S4).trans S47
 have d9 := S47.get c9 (by simp)
 have d8 := S47.get (S4.get c8 (by simp)) (by simp)
 have d6 := S47.get c64 (by simp)
 have d5 := S47.get (S4.get (S3.get (S2.get c5 (by simp)) (by simp)) (by simp)) (by simp)
 have dl := S57.get c4l (by simp)
 refine ldI (v := ab (dy : Nat)) d9 rfl rfl ?_
 refine l45_1 hJ (fun i : Nat => dy - i) (fun i F H' => i ≤ dy ∧ ag [pl] H7 H' ∧ H'[pl]? = some (.cells ((cR a fr i n).map ab) true 0) ∧ F.ds = [] ∧ F.r 2 = ab n ∧ F.r 5 = ptr p5 0 ∧ F.r 6 = ptr p6 0 ∧ F.r 8 = ptr p8 0 ∧ F.r 9 = ptr p9 0 ∧ F.r 11 = ptr p11 0 ∧ F.r 22 = ab (dy : Nat) ∧ F.r 23 = ab (i : Nat)) ?_ (s := 0)
  (.inl ⟨by omega,ag.refl,dl,rfl,rfl,rfl,rfl,rfl,rfl,rfl,rfl,rfl⟩)
 rintro i F H' ⟨hi,S,cl,ds,r2,r5,r6,r8,r9,r11,r22,r23⟩ okc hnc
 rw [s45_1,r2,r6,r8,r11,r22,r23]
 have n8 : p8 ≠ pl := by omega
 have x11 := S.get c11' (by simp; omega)
 have x8 := S.get d8 (by simp; omega)
 refine dh (ba (fun hlt => ?_) fun hge => ?_)
 ·refine ldI (v := .slice (some ⟨pl,0,none⟩) a a) x11 rfl rfl (ldI (v := ab (fr : Nat)) x8 rfl rfl (ck (by omega) (idxI ⟨by omega,by omega⟩ ?_)))
  have e1 : 0 + (((fr : Nat) : Int) + ((i : Nat) : Int)).toNat * 1 = fr + i := by omega
  rw [e1]
  refine qSt cl (by simp [stayH_len]; omega) rfl rfl fun H8 S8 c8' l8 => ck (by omega) ⟨i + 1,by dsimp only; omega,.inl ⟨by omega,S.trans S8,?_,ds,r2,r5,r6,r8,r9,r11,r22,by show ab _ = ab _; congr 1⟩⟩
  rw [c8',← List.map_set,stayH_set (by omega)]
 have hid : i = dy := by omega
 subst hid
 -- the rains
 have hS := S.1
 refine qAl fun H8 p13 e8 S8 c13 l8 => qSt c13 (by simp) rfl rfl fun H9 S9 c13' l9 => ?_
 have c13' : H9[p13]? = some (.cells [.bool true] true 0) := c13'
 have S79 : ag [] H' H9 := S8.bq S9 (by simp; omega)
 have S69 : ag [pl] H7 H9 := S.trans S79.bN
 refine ar (c := s.cells) (S69.get d6 (by simp; omega)) (by simp [aU.cells]) rfl rfl ?_
 refine good42 hJ fun H10 ps S10 cs10 gs => ?_
 have T10 : ag [pl] H7 H10 := S69.trans S10.bN
 have TH : ag [] H H10 := T7.bq T10 (by simp; omega)
 refine l45_2 hJ (first := []) (cap := [ptr ps 0]) rfl (by decide) ?_
 obtain ⟨R,hRe⟩ : ∃ R : RG,R = (((F.p 24 (.bool (decide (((i : Nat) : Int) < ((i : Nat) : Int))))).p 13 (ptr p13 0)).p 33 (.agg ⟨s.cells⟩)).p 34 (.func (.func 72) ⟨[]⟩ ⟨[ptr ps 0]⟩) := ⟨_,rfl⟩
 rw [← hRe]
 have R5 : R.r 5 = ptr p5 0 := by subst hRe; exact r5
 have R8 : R.r 8 = ptr p8 0 := by subst hRe; exact r8
 have R9 : R.r 9 = ptr p9 0 := by subst hRe; exact r9
 have R11 : R.r 11 = ptr p11 0 := by subst hRe; exact r11
 have R13 : R.r 13 = ptr p13 0 := by subst hRe; rfl
 have Rds : R.ds = [] := by subst hRe; exact ds
 clear hRe
 have hl11 : (H10 ++ [af.deferred] ++ [lpS .ready none R.r H10.length])[H10.length + 1]? = some (lpS .ready none R.r H10.length) := by
  rw [List.append_assoc]
  simp
 have hd11 : (H10 ++ [af.deferred] ++ [lpS .ready none R.r H10.length])[H10.length]? = some .deferred := by
  rw [List.append_assoc]
  simp
 have hln : (H10 ++ [af.deferred] ++ [lpS .ready none R.r H10.length]).length = H10.length + 2 := by simp
 have S11 : ag [] H10 (H10 ++ [af.deferred] ++ [lpS .ready none R.r H10.length]) := ag.refl.app.app
 generalize hH11 : H10 ++ [af.deferred] ++ [lpS .ready none R.r H10.length] = H11 at hl11 hd11 hln S11
 have U : ag [pl] H7 H11 := T10.trans S11.bN
 have UH : ag [] H H11 := TH.trans S11
 have w13 : H11[p13]? = some (.cells [.bool true] true 0) := S11.get (S10.get c13' (by simp)) (by simp)
 have wl : H11[pl]? = some (.cells ((cR a fr i n).map ab) true 0) := S11.get (S10.get (S79.get cl (by simp)) (by simp)) (by simp)
 have w5 := U.get d5 (by simp; omega)
 have w8 := U.get d8 (by simp; omega)
 have w9 := U.get d9 (by simp; omega)
 have w11 := U.get c11' (by simp; omega)
 have ws : H11[ps]? = some (.cells s.cells true 0) := S11.get cs10 (by simp)
 have b5 := ah d5
 have b8 := ah d8
 have b9 := ah d9
 have b11 := ah c11'
 have bl := ah dl
 have b13 := ah c13'
 have bs := ah cs10
 have h10 := S10.1
 have fin : ∀ {b : Bool} {H' : List af} {pend : Option Code},b = stayB p s n fr i → ag [H10.length + 1,p13] H11 H' → H'[p13]? = some (.cells [.bool b] true 0) → (H'[H10.length + 1]? = some (lpS .ready none R.r H10.length) ∨ H'[H10.length + 1]? = some (lpS .done (some (.exit 2)) R.r H10.length)) →
   ∀ v,endQ H10.length R (aA pl45 prog J 60 H.length 45 ct45 yp11 (codeOf f45) [] (aq prog [.tmp 10] H.length K)) v H' := by
  intro b H' pend hb S h13 hl v
  have hd' := S.get hd11 (by simp; omega)
  have hfin : aI H.length K [H10.length] [.bool b] (H'.set (H10.length + 1) .dead) := by
   refine retLdef (cI hd' (by omega)) (by simp [unk]) ?_
   rw [hb]
   exact hK _ (((UH.bq S (by simp; omega)).set (.inr (by omega))).set (.inr (by omega)))
  rcases hl with hl | hl
  ·refine endQnorm hl (by simp) ?_
   rw [c45_2]
   show ai false 1 (R.r 13) _ _
   rw [R13,Rds]
   exact ldI (v := .bool b) (cI h13 (by omega)) rfl rfl hfin
  ·refine endQexit hl (by simp) ?_
   rw [c45_2x2]
   show ai false 1 (R.r 13) _ _
   rw [R13,Rds]
   exact ldI (v := .bool b) (cI h13 (by omega)) rfl rfl hfin
 have es : stayB p s n fr i = (df s).all fun w => decide (cH p (cR a fr i n) w < 0) := by
  unfold stayB fedB
  rw [ea,Int.toNat_natCast,Int.toNat_natCast]
 have RD : Rnd J (df s) (.func (.yield (H10.length + 1)) ⟨[]⟩ ⟨[]⟩) [H10.length + 1,p13] H11
   (fun k O H' => O = [] ∧ H'[H10.length + 1]? = some (lpS .ready none R.r H10.length) ∧ H'[p13]? = some (.cells [.bool true] true 0) ∧ ∀ j w,j < k → (df s)[j]? = some w → cH p (cR a fr i n) w < 0)
   (fun H' => H'[H10.length + 1]? = some (lpS .done (some (.exit 2)) R.r H10.length) ∧ H'[p13]? = some (.cells [.bool false] true 0) ∧ ∃ w ∈ df s,¬ cH p (cR a fr i n) w < 0) := by
  refine ⟨by simp; omega,fun h => by rw [h.1]; simp,fun T hi => ⟨hi.1,by rw [T.2 _ (.inl (by omega))]; exact hi.2.1,by rw [T.2 _ (.inl (by omega))]; exact hi.2.2.1,hi.2.2.2⟩,?_⟩
  rintro k w O Ha Q hw Sa _ ⟨rfl,i1,i2,i3⟩ q1 q2
  have hwl := rainsB_len (List.mem_of_getElem? hw)
  have ga : ∀ {q : Nat} {o : af},H11[q]? = some o → q ≠ H10.length + 1 → q ≠ p13 → Ha[q]? = some o := fun hq h1 h2 => Sa.get hq (by simp; exact ⟨h1,h2⟩)
  refine roundS hJ (a := a) (fr := fr) (dy := i) (pl := pl) f hn (by omega) (by omega) (by rw [hwl,ea]) i1 R5 R8 R9 R11 R13 (ga w5 (by omega) (by omega)) (ga w8 (by omega) (by omega)) (ga w9 (by omega) (by omega)) (ga w11 (by omega) (by omega)) (ga wl (by omega) (by omega)) i2 (by omega) (by omega) (by omega) (by omega) (by omega) (by omega) (fun Hb hs Sb hlb => ?_) fun Hb hs Sb hlb h13 => ?_
  ·refine q1 [] Hb (Sb.weak (by simp)) (by simp) ⟨rfl,hlb,Sb.get i2 (by simp; omega),fun j u hj hu => ?_⟩
   by_cases e : j = k
   ·rw [e,hw] at hu
    injection hu with hu
    rw [← hu]
    exact hs
   ·exact i3 j u (by omega) hu
  ·exact q2 Hb (Sb.weak (by simp)) ⟨hlb,h13,w,List.mem_of_getElem? hw,hs⟩
 refine good72 hJ g RD ⟨rfl,rfl,rfl⟩ ws (by simp; omega) ⟨rfl,hl11,w13,fun j w hj => absurd hj (Nat.not_lt_zero _)⟩ (fun Hb O Sb _ hi => ?_) fun Hb Sb st => ?_
 ·obtain ⟨_,i1,i2,i3⟩ := hi
  refine fin (b := true) (pend := none) ?_ Sb i2 (.inl i1) _
  rw [es,eq_comm,List.all_eq_true]
  intro w hw
  obtain ⟨j,hj,e⟩ := List.mem_iff_getElem.1 hw
  exact decide_eq_true (i3 j w hj (by rw [List.getElem?_eq_getElem hj,e]))
 ·obtain ⟨i1,i2,w,hw,hs⟩ := st
  refine fin (b := false) (pend := none) ?_ Sb i2 (.inr i1) _
  rw [es,eq_comm,List.all_eq_false]
  exact ⟨w,hw,by rw [decide_eq_false hs]; decide⟩
theorem topH_yes {q : Int → Bool} {m : Nat} (h : q m = true) : ∀ {N : Nat},m ≤ N → (∀ k : Nat,m < k → k ≤ N → q k = false) → topH q N = m
 | 0,hm,_ => by
  have : m = 0 := by omega
  subst this
  rfl
 | N + 1,hm,hno => by
  unfold topH
  by_cases e : m = N + 1
  ·subst e
   rw [if_pos h]
  ·rw [if_neg (by rw [hno (N + 1) (by omega) (Nat.le_refl _)]; decide)]
   exact topH_yes h (by omega) fun k h1 h2 => hno k h1 (by omega)
theorem topH_none {q : Int → Bool} : ∀ {N : Nat},(∀ k : Nat,0 < k → k ≤ N → q k = false) → topH q N = 0
 | 0,_ => rfl
 | N + 1,hno => by
  unfold topH
  rw [if_neg (by rw [hno (N + 1) (by omega) (Nat.le_refl _)]; decide)]
  exact topH_none fun k h1 h2 => hno k h1 (by omega)
theorem good19 (hJ : Closed prog main J) {p : Pas} {s : aU} {fr dy : Int} (hK : ∀ H',ag [] H H' → K (.tuple ⟨[ab (headN p s fr dy),ab (headE p s fr dy)]⟩) H') : Good prog J 19 [.agg ⟨p.cells⟩,.agg ⟨s.cells⟩,ab fr,ab dy] H K := by
 refine g19 hJ fun ok => ?_
 rw [e19]
 refine dk (l := p.cells) rfl fun H1 p4 e1 S1 c4 l1 => dk (l := s.cells) rfl fun H2 p5 e2 S2 c5 l2 => ?_
 have c42 := S2.get c4 (by simp)
 have T2 := S1.trans S2
 have b4 := ah c42
 have b5 := ah c5
 refine ⟨[p4,p5],ar (c := p.cells) c42 (by simp [Pas.cells]) rfl rfl ⟨by simp [aR,au],ar (c := s.cells) c5 (by simp [aU.cells]) rfl rfl ⟨by simp [aR,au],?_⟩⟩⟩
 have sb : ∀ {H'},ag [] H2 H' → aG (some [p4,p5]) H2 H' := fun S => sbTwo S b4 b5 (by simp) (by simp)
 refine good27 hJ ⟨sb ag.refl,good28 hJ ⟨sb ag.refl,by decide,fillP2 ⟨rfl,rfl⟩ ⟨rfl,rfl⟩ (du fun H3 p3 e3 S3 c3 l3 => ⟨sb S3,?_⟩)⟩⟩
 refine good26 hJ (bS (dv (s := 1) (n := 2) c3 rfl rfl)) ⟨sb S3,?_⟩
 have T3 := T2.trans S3
 have c43 := S3.get c42 (by simp)
 have c53 := S3.get c5 (by simp)
 have fin : ∀ {e : Int} {H' : List af},headE p s fr dy = e → e ≠ 0 → ag [] H H' → aI H.length K [] [ab 0,ab e] H' := fun he h0 S => by
  have := hK _ S
  unfold headN at this
  rw [if_neg (by omega),he] at this
  exact ao (nu2 (by simp [unk]) (by simp [unk])) this
 refine neqI (ba (fun h1 => fin ?_ h1 T3) fun h1 => ?_)
 ·unfold headE; rw [if_pos h1]
 have hf : cQ (bR p) (cd s) = 0 := by omega
 have f : cA p := by
  unfold cQ at hf
  by_cases x : bR p ≠ 0
  ·rw [if_pos x] at hf
   exact absurd hf x
  ·unfold bR at x
   split at x
   ·assumption
   ·exact absurd (by decide) x
 have g : cL s := by
  unfold cQ at hf
  by_cases x : bR p ≠ 0
  ·rw [if_pos x] at hf
   exact absurd hf x
  ·rw [if_neg x] at hf
   unfold cd at hf
   split at hf
   ·assumption
   ·cases hf
 obtain ⟨g1,g2,g3⟩ := id g
 refine aQ (ldI (v := ab s.days) c53 rfl rfl (subI (by omega) (good44 hJ (dU (cndN (fun h2 => fin ?_ (by decide) T3) fun h2 => ?_)))))
 ·unfold headE; rw [if_neg h1,if_pos h2]
 refine aQ (ldI (v := ab s.days) c53 rfl rfl (subI (by omega) (good44 hJ (dU (cndN (fun h3 => fin ?_ (by decide) T3) fun h3 => ?_)))))
 ·unfold headE; rw [if_neg h1,if_neg (not_not_intro h2),if_pos h3]
 have h0 : headE p s fr dy = 0 := by unfold headE; rw [if_neg h1,if_neg (not_not_intro h2),if_neg (not_not_intro h3)]
 obtain ⟨a,rfl⟩ := Int.eq_ofNat_of_zero_le (by omega : (0 : Int) ≤ fr)
 obtain ⟨b,rfl⟩ := Int.eq_ofNat_of_zero_le (by omega : (0 : Int) ≤ dy)
 refine l19_1 hJ (fun m : Nat => m) (fun m F H' => m ≤ 40 ∧ ag [] H3 H' ∧ (∀ k : Nat,m < k → k ≤ 40 → stayB p s k (a : Nat) (b : Nat) = false) ∧ F.ds = [] ∧ F.r 2 = ab (a : Nat) ∧ F.r 3 = ab (b : Nat) ∧ F.r 4 = ptr p4 0 ∧ F.r 5 = ptr p5 0 ∧ F.r 11 = ab (m : Nat)) ?_ (s := 40)
  (.inl ⟨by omega,ag.refl,fun k h1 h2 => absurd h1 (by omega),rfl,rfl,rfl,rfl,rfl,rfl⟩)
 rintro m F H' ⟨hm,S,hno,ds,r2,r3,r4,r5,r11⟩ okc hnc
 rw [s19_1,r2,r3,r4,r5,r11]
 have last : headN p s (a : Nat) (b : Nat) = m → aI H.length K [] [ab (m : Nat),ab 0] H' := fun he => by
  have := hK H' (T3.trans S)
  rw [he,h0] at this
  exact ao (nu2 (by simp [unk]) (by simp [unk])) this
 refine gtrI (ba (fun hpos => ?_) fun hz => hold.2 ?_)
 ·refine ar (c := p.cells) (S.get c43 (by simp)) (by simp [Pas.cells]) rfl rfl (ar (c := s.cells) (S.get c53 (by simp)) (by simp [aU.cells]) rfl rfl ?_)
  refine good45 hJ f g (by omega) (by omega) fun H4 S4 => dU (hold.2 ?_)
  rw [s19_2]
  show cnd (.bool (!stayB p s m (a : Nat) (b : Nat))) _ _
  refine cndB (fun hst => ?_) fun hst => ?_
  ·have hst : stayB p s m (a : Nat) (b : Nat) = false := by simpa using hst
   show aj prog .sub 3 (F.r 11) (ab 1) _
   rw [r11]
   refine subI (by omega) ⟨m - 1,by dsimp only; omega,.inl ⟨by omega,S.trans S4,fun k h1 h2 => ?_,ds,r2,r3,r4,r5,by show ab _ = ab _; congr 1; omega⟩⟩
   by_cases e : k = m
   ·rw [e]
    exact hst
   ·exact hno k (by omega) h2
  ·have hst : stayB p s m (a : Nat) (b : Nat) = true := by simpa using hst
   show aI H.length K F.ds [F.r 11,ab 0] H4
   rw [ds,r11]
   have := hK H4 ((T3.trans S).trans S4)
   unfold headN at this
   rw [if_pos h0,topH_yes (q := fun n => stayB p s n (a : Nat) (b : Nat)) hst hm hno,h0] at this
   exact ao (nu2 (by simp [unk]) (by simp [unk])) this
 ·have : m = 0 := by omega
  subst this
  rw [s19_2]
  show cnd (.bool false) _ _
  refine aP.2 ?_
  show aI H.length K F.ds [F.r 11,ab 0] H'
  rw [ds,r11]
  refine last ?_
  unfold headN
  rw [if_pos h0]
  exact topH_none fun k h1 h2 => hno k (by omega) h2
end
def ckdE (p : Pas) (heads : List Int) (s : aU) : Int := if cQ (bR p) (cd s) ≠ 0 then cQ (bR p) (cd s) else hunE heads s.days
theorem fst2_zero {p : Pas} {s : aU} (h : cQ (bR p) (cd s) = 0) : cA p ∧ cL s := by
 unfold cQ at h
 by_cases x : bR p ≠ 0
 ·rw [if_pos x] at h
  exact absurd h x
 ·rw [if_neg x] at h
  refine ⟨?_,?_⟩
  ·unfold bR at x
   split at x
   ·assumption
   ·exact absurd (by decide) x
  ·unfold cd at h
   split at h
   ·assumption
   ·cases h
theorem ckdE_zero {p : Pas} {heads : List Int} {s : aU} (h : ckdE p heads s = 0) : cA p ∧ cL s ∧ headsOk heads ∧ (heads.length : Int) = s.days := by
 unfold ckdE at h
 split at h
 ·rename_i x
  exact absurd h x
 ·rename_i x
  obtain ⟨f,g⟩ := fst2_zero (p := p) (s := s) (by omega)
  unfold hunE at h
  split at h
  ·rename_i y
   exact absurd h y
  ·rename_i y
   split at h
   ·rename_i hh
    refine ⟨f,g,hh,?_⟩
    unfold cntE at y
    split at y
    ·exact absurd (by decide) y
    ·split at y
     ·exact absurd (by decide) y
     ·omega
   ·cases h
section
variable {main : Bool} {J : JT} {h H : List af} {K : Value → List af → Prop} {KV : Value → Prop} {HL : List af → Prop} {n0 : Nat}
theorem sliValZ {v : Value} {s n : Nat} {cs : List Value} (hs : Sli h v s n cs) : v.cells = #[v] ∧ one v = true ∧ kn1 v = true := by
 obtain ⟨base,c,rfl,_⟩ := hs
 exact ⟨rfl,rfl,rfl⟩
theorem good40 (hJ : Closed prog main J) {p : Pas} {s : aU} {hs : List Int} {hv : Value} (sh : Sli H hv 1 hs.length (hs.map ab)) (hl : hs.length < 1000000) (hK : ∀ H',ag [] H H' → K (ab (ckdE p hs s)) H') : Good prog J 40 [.agg ⟨p.cells⟩,hv,.agg ⟨s.cells⟩] H K := by
 refine g40 hJ fun ok => ?_
 rw [e40]
 refine dk (l := p.cells) rfl fun H1 p4 e1 S1 c4 l1 => dk (l := s.cells) rfl fun H2 p5 e2 S2 c5 l2 => ?_
 have c42 := S2.get c4 (by simp)
 have T2 := S1.trans S2
 have b4 := ah c42
 have b5 := ah c5
 refine ⟨[p4,p5],ar (c := p.cells) c42 (by simp [Pas.cells]) rfl rfl ⟨by simp [aR,au],ar (c := s.cells) c5 (by simp [aU.cells]) rfl rfl ⟨by simp [aR,au],?_⟩⟩⟩
 have sb : ∀ {H'},ag [] H2 H' → aG (some [p4,p5]) H2 H' := fun S => sbTwo S b4 b5 (by simp) (by simp)
 refine good27 hJ ⟨sb ag.refl,good28 hJ ⟨sb ag.refl,by decide,fillP2 ⟨rfl,rfl⟩ ⟨rfl,rfl⟩ (du fun H3 p3 e3 S3 c3 l3 => ⟨sb S3,?_⟩)⟩⟩
 refine good26 hJ (bS (dv (s := 1) (n := 2) c3 rfl rfl)) ⟨sb S3,?_⟩
 have T3 := T2.trans S3
 have c53 := S3.get c5 (by simp)
 have k := hK H3 T3
 refine neqI (ba (fun h1 => ?_) fun h1 => ?_)
 ·unfold ckdE at k
  rw [if_pos h1] at k
  exact ao (by simp [unk]) k
 ·refine aQ (ldI (v := ab s.days) c53 rfl rfl (good67 hJ (T3.sli sh (by simp)) hl ?_))
  unfold ckdE at k
  rw [if_neg h1] at k
  exact ao (by simp [unk]) k
end
def stepV (p : Pas) (hs : List Int) (a : List UInt8 × Int) (w : List UInt8) : List UInt8 × Int := if cH p hs w ≥ 0 ∧ (a.2 < 0 ∨ cH p hs w < a.2) then (w,cH p hs w) else a
def worstR (p : Pas) (hs : List Int) (s : aU) : List UInt8 × Int := (df s).foldl (stepV p hs) ([],-1)
section
variable {main : Bool} {J : JT} {h H : List af} {K : Value → List af → Prop} {KV : Value → Prop} {HL : List af → Prop} {n0 : Nat}
noncomputable abbrev lpV (st : LoopState) (pend : Option Code) (r : Nat → Value) (d : Nat) : af := .loop st pend 18 r 45 #[23] (aw yp3 (codeOf f18)) (aw [1,1,1,0,1,0,1] (codeOf f18)) d
theorem roundV (hJ : Closed prog main J) {l d p3 p4 p9 p10 : Nat} {R : Nat → Value} {p : Pas} {hs : List Int} {hv : Value} {w w0 : List UInt8} {d0 : Int} {Q : Value → List af → Prop} (f : cA p) (hh : headsOk hs) (hw : w.length ≤ hs.length) (hw2 : w.length ≤ 1000)
  (sh : Sli (H.set l (lpV .busy none R d)) hv 1 hs.length (hs.map ab)) (kv : kn1 hv = true)
  (hl : H[l]? = some (lpV .ready none R d)) (r3 : R 3 = ptr p3 0) (r4 : R 4 = ptr p4 0) (r9 : R 10 = ptr p9 0) (r10 : R 11 = ptr p10 0)
  (c3 : H[p3]? = some (.cells p.cells true 0)) (c4 : H[p4]? = some (.cells [hv] true 0)) (c9 : H[p9]? = some (.cells [ay w0] true 0)) (c10 : H[p10]? = some (.cells [ab d0] true 0))
  (n3 : p3 ≠ l) (n4 : p4 ≠ l) (n9 : p9 ≠ l) (n10 : p10 ≠ l) (n : p9 ≠ p10)
  (k : ∀ H',ag [l,p9,p10] H H' → H'[l]? = some (lpV .ready none R d) → H'[p9]? = some (.cells [ay (stepV p hs (w0,d0) w).1] true 0) → H'[p10]? = some (.cells [ab (stepV p hs (w0,d0) w).2] true 0) → Q (.bool true) H') :
  dC prog (Good prog J) (.func (.yield l) ⟨[]⟩ ⟨[]⟩) [ay w] H Q := by
 show Good prog J (yid prog l) [ay w] H Q
 refine good_round hJ hl rfl (by decide) fun ok => bH hJ mixed _ ?_
 rw [a18_1]
 refine ⟨rfl,none,_,_,_,_,_,_,_,hl,bH hJ mixed _ ?_⟩
 rw [b18_1]
 have hll := ah hl
 have hl3 : (H.set l (lpV .busy none R d))[l]? = some (lpV .busy none R d) := List.getElem?_set_self hll
 have S3 : ag [l] H (H.set l (lpV .busy none R d)) := ag.refl.set (.inl (by simp))
 generalize H.set l (lpV .busy none R d) = H3 at hl3 S3 sh
 show ai true 6 (R 3) _ _
 rw [r3]
 refine ar (c := p.cells) (S3.get c3 (by simpa using n3)) (by simp [Pas.cells]) rfl rfl ?_
 show ai false 1 (R 4) _ _
 rw [r4]
 refine ldI (v := hv) (S3.get c4 (by simpa using n4)) rfl kv ?_
 have nn : p10 ≠ p9 := fun e => n e.symm
 refine good43 hJ f hh sh hw hw2 fun H4 S4 => geqI ?_
 have T4 : ag [l] H H4 := S3.trans S4.bN
 have hl4 := S4.get hl3 (by simp)
 have d9 := T4.get c9 (by simpa using n9)
 have d10 := T4.get c10 (by simpa using n10)
 have hll4 := ah hl4
 have no : ¬ (cH p hs w ≥ 0 ∧ (d0 < 0 ∨ cH p hs w < d0)) → Q (.bool true) (H4.set l (lpV .ready none R d)) := fun hn => by
  have e : stepV p hs (w0,d0) w = (w0,d0) := by
   unfold stepV
   rw [if_neg hn]
  refine k _ ((T4.weak (by simp)).set (.inl (by simp))) (List.getElem?_set_self hll4) (cI ?_ n9) (cI ?_ n10)
  ·rw [e]
   exact d9
  ·rw [e]
   exact d10
 have yes : ∀ {H6 : List af},(cH p hs w ≥ 0 ∧ (d0 < 0 ∨ cH p hs w < d0)) → ag [p9,p10] H4 H6 → H6[p9]? = some (.cells [ay w] true 0) → H6[p10]? = some (.cells [ab (cH p hs w)] true 0) → Q (.bool true) (H6.set l (lpV .ready none R d)) := fun {H6} hy S6 e9 e10 => by
  have e : stepV p hs (w0,d0) w = (w,cH p hs w) := by
   unfold stepV
   rw [if_pos hy]
  have hl6 := S6.get hl4 (by simp; exact ⟨fun e => n9 e.symm,fun e => n10 e.symm⟩)
  refine k _ (((T4.weak (by simp)).trans (S6.weak (by simp))).set (.inl (by simp))) (List.getElem?_set_self (ah hl6)) (cI ?_ n9) (cI ?_ n10)
  ·rw [e]
   exact e9
  ·rw [e]
   exact e10
 have put : ∀ {v x : Value} {K6 : List af → Prop},v = ay w → x = ptr p10 0 → (∀ H6,ag [p9,p10] H4 H6 → H6[p9]? = some (.cells [ay w] true 0) → H6[p10]? = some (.cells [ab (cH p hs w)] true 0) → H6[l]? = some (lpV .busy none R d) → K6 H6) → aB 1 (ptr p9 0) v H4 fun H5 => aB 1 x (ab (cH p hs w)) H5 K6 := fun {v x K6} hv hx hk => by
  subst hv hx
  refine qSt d9 (by simp) rfl rfl fun H5 S5 c5 l5 => qSt (S5.get d10 (by simpa using nn)) (by simp) rfl rfl fun H6 S6 c6 l6 => ?_
  exact hk H6 ((S5.weak (by simp)).trans (S6.weak (by simp))) (S6.get c5 (by simpa using n)) c6 (S6.get (S5.get hl4 (by simpa using n9.symm)) (by simpa using n10.symm))
 refine ba (fun h1 => ?_) fun h1 => ?_
 ·show ai false 1 (R 11) _ _
  rw [r10]
  refine ldI (v := ab d0) d10 rfl rfl (dh (ba (fun h2 => ?_) fun h2 => ?_))
  ·show aB 1 (R 10) _ _ _
   rw [r9]
   refine put rfl r10 fun H6 S6 e9 e10 hl6 => ?_
   exact ⟨.busy,none,_,_,_,_,_,_,_,hl6,.inl (yes ⟨h1,.inl h2⟩ S6 e9 e10)⟩
  ·show ai false 1 (R 11) _ _
   rw [r10]
   refine ldI (v := ab d0) d10 rfl rfl (dh (ba (fun h3 => ?_) fun h3 => ?_))
   ·show aB 1 (R 10) _ _ _
    rw [r9]
    refine put rfl r10 fun H6 S6 e9 e10 hl6 => ?_
    exact ⟨.busy,none,_,_,_,_,_,_,_,hl6,.inl (yes ⟨h1,.inr h3⟩ S6 e9 e10)⟩
   ·exact ⟨.busy,none,_,_,_,_,_,_,_,hl4,.inl (no fun h => h.2.elim h2 h3)⟩
 ·exact ⟨.busy,none,_,_,_,_,_,_,_,hl4,.inl (no fun h => h1 h.1)⟩
def wstV (p : Pas) (hs : List Int) (s : aU) : List UInt8 × Int × Int := if ckdE p hs s ≠ 0 then ([],0,ckdE p hs s) else if (worstR p hs s).2 < 0 then ([],0,11) else ((worstR p hs s).1,(worstR p hs s).2,0)
theorem nu3 {a b c : Value} (ha : a ≠ unk) (hb : b ≠ unk) (hc : c ≠ unk) : ∀ v ∈ [a,b,c],v ≠ unk := by
 intro v hv
 simp only [List.mem_cons,List.not_mem_nil,or_false] at hv
 rcases hv with rfl | rfl | rfl <;> assumption
set_option maxHeartbeats 800000 in
theorem good18 (hJ : Closed prog main J) {p : Pas} {s : aU} {hs : List Int} {hv : Value} (sh : Sli H hv 1 hs.length (hs.map ab)) (hl : hs.length < 1000000)
  (hK : ∀ H',ag [] H H' → K (.tuple ⟨[ay (wstV p hs s).1,ab (wstV p hs s).2.1,ab (wstV p hs s).2.2]⟩) H') : Good prog J 18 [.agg ⟨p.cells⟩,hv,.agg ⟨s.cells⟩] H K := by
 refine g18 hJ fun ok => ?_
 rw [e18]
 have vh := sliValZ sh
 refine dk (l := p.cells) rfl fun H1 p3 e1 S1 c3 l1 => qBox1 vh.1 vh.2.1 fun H2 p4 e2 S2 c4 l2 => dk (l := s.cells) rfl fun H3 p5 e3 S3 c5 l3 => ?_
 have c33 := S3.get (S2.get c3 (by simp)) (by simp)
 have c43 := S3.get c4 (by simp)
 have T3 := (S1.trans S2).trans S3
 refine ar (c := p.cells) c33 (by simp [Pas.cells]) rfl rfl (ldI (v := hv) c43 rfl vh.2.2 (ar (c := s.cells) c5 (by simp [aU.cells]) rfl rfl ?_))
 refine good40 hJ (T3.sli sh (by simp)) hl fun H4 S4 => neqI (ba (fun h1 => ?_) fun h1 => ?_)
 ·have k := hK H4 (T3.trans S4)
  unfold wstV at k
  rw [if_pos h1] at k
  exact ao (nu3 (by simp [unk]) (by simp [unk]) (by simp [unk])) k
 have h0 : ckdE p hs s = 0 := by omega
 obtain ⟨f,g,hh,hlen⟩ := ckdE_zero h0
 obtain ⟨g1,g2,g3⟩ := id g
 refine qAl fun H5 p9 e5 S5 c9 l5 => qAl fun H6 p10 e6 S6 c10 l6 => ?_
 refine qSt (S6.get c9 (by simp)) (by simp) rfl rfl fun H7 S7 c97 l7 => qSt (S7.get c10 (by simp; omega)) (by simp) rfl rfl fun H8 S8 c108 l8 => ?_
 have c9 : H8[p9]? = some (.cells [ay []] true 0) := S8.get c97 (by simp; omega)
 have c10 : H8[p10]? = some (.cells [ab (-1)] true 0) := c108
 have h43 := S4.1
 have S48 : ag [] H4 H8 := ((S5.trans S6).bq S7 (by simp; omega)).bq S8 (by simp; omega)
 have S38 := S4.trans S48
 have T8 : ag [] H H8 := T3.trans S38
 refine ar (c := s.cells) (S38.get c5 (by simp)) (by simp [aU.cells]) rfl rfl ?_
 refine good42 hJ fun H10 ps S10 cs10 gs => ?_
 have TH : ag [] H H10 := T8.trans S10
 refine l18_1 hJ (first := []) (cap := [ptr ps 0]) rfl (by decide) ?_
 obtain ⟨R,hRe⟩ : ∃ R : RG,R = (((((((((((((((((RG.mk (ax [.agg ⟨p.cells⟩,hv,.agg ⟨s.cells⟩]) []).p 3 (ptr p3 0)).p 4 (ptr p4 0)).p 5 (ptr p5 0)).p 6 (ay [])).p 7 (ab 0)).p 8 (ab 0)).p 14 (.agg ⟨p.cells⟩)).p 15 hv).p 16 (.agg ⟨s.cells⟩)).p 17 (ab (ckdE p hs s))).p 9 (ab (ckdE p hs s))).p 18 (ab (ckdE p hs s))).p 19 (.bool (decide (ckdE p hs s ≠ 0)))).p 10 (ptr p9 0)).p 11 (ptr p10 0)).p 21 (.agg ⟨s.cells⟩)).p 22 (.func (.func 72) ⟨[]⟩ ⟨[ptr ps 0]⟩) := ⟨_,rfl⟩
 rw [show (Value.string { data := #[] }) = ay [] from rfl,← hRe]
 have R3 : R.r 3 = ptr p3 0 := by subst hRe; rfl
 have R4 : R.r 4 = ptr p4 0 := by subst hRe; rfl
 have R9 : R.r 10 = ptr p9 0 := by subst hRe; rfl
 have R10 : R.r 11 = ptr p10 0 := by subst hRe; rfl
 have Rds : R.ds = [] := by subst hRe; rfl
 clear hRe
 have hl11 : (H10 ++ [af.deferred] ++ [lpV .ready none R.r H10.length])[H10.length + 1]? = some (lpV .ready none R.r H10.length) := by
  rw [List.append_assoc]
  simp
 have hd11 : (H10 ++ [af.deferred] ++ [lpV .ready none R.r H10.length])[H10.length]? = some .deferred := by
  rw [List.append_assoc]
  simp
 have hln : (H10 ++ [af.deferred] ++ [lpV .ready none R.r H10.length]).length = H10.length + 2 := by simp
 have S11 : ag [] H10 (H10 ++ [af.deferred] ++ [lpV .ready none R.r H10.length]) := ag.refl.app.app
 generalize hH11 : H10 ++ [af.deferred] ++ [lpV .ready none R.r H10.length] = H11 at hl11 hd11 hln S11
 have UH : ag [] H H11 := TH.trans S11
 have S8' := S10.trans S11
 have S3' := S38.trans S8'
 have w9 := S8'.get c9 (by simp)
 have w10 := S8'.get c10 (by simp)
 have w3 := S3'.get c33 (by simp)
 have w4 := S3'.get c43 (by simp)
 have ws : H11[ps]? = some (.cells s.cells true 0) := S11.get cs10 (by simp)
 have b3 := ah c33
 have b4 := ah c43
 have b9 := ah c9
 have b10 := ah c10
 have bs := ah cs10
 have h10 := S10.1
 have h38 := S38.1
 have hTH := TH.1
 have hUH := UH.1
 have hT3 := T3.1
 let acc : Nat → List UInt8 × Int := fun k => ((df s).take k).foldl (stepV p hs) ([],-1)
 have tk : ∀ (k : Nat) (w : List UInt8),(df s)[k]? = some w → acc (k + 1) = stepV p hs (acc k) w := fun k w hw => by
  dsimp only [acc]
  rw [List.take_add_one,hw,List.foldl_append]
  rfl
 have RD : Rnd J (df s) (.func (.yield (H10.length + 1)) ⟨[]⟩ ⟨[]⟩) [H10.length + 1,p9,p10] H11
   (fun k O H' => O = [] ∧ H'[H10.length + 1]? = some (lpV .ready none R.r H10.length) ∧ H'[p9]? = some (.cells [ay (acc k).1] true 0) ∧ H'[p10]? = some (.cells [ab (acc k).2] true 0)) (fun H' => False) := by
  refine ⟨by simp; omega,fun h => by rw [h.1]; simp,fun T hi => ⟨hi.1,by rw [T.2 _ (.inl (by omega))]; exact hi.2.1,by rw [T.2 _ (.inl (by omega))]; exact hi.2.2.1,by rw [T.2 _ (.inl (by omega))]; exact hi.2.2.2⟩,?_⟩
  rintro k w O Ha Q hw Sa _ ⟨rfl,i1,i2,i3⟩ q1 q2
  have hwl := rainsB_len (List.mem_of_getElem? hw)
  have ga : ∀ {q : Nat} {o : af},H11[q]? = some o → q ≠ H10.length + 1 → q ≠ p9 → q ≠ p10 → Ha[q]? = some o := fun hq h1 h2 h3 => Sa.get hq (by simp; exact ⟨h1,h2,h3⟩)
  have Sx : ag [H10.length + 1,p9,p10] H11 (Ha.set (H10.length + 1) (lpV .busy none R.r H10.length)) := Sa.set (.inl (by simp))
  have Sy : ag [] H (Ha.set (H10.length + 1) (lpV .busy none R.r H10.length)) := UH.bq Sx (by simp; omega)
  refine roundV hJ f hh (by omega) (by omega) (Sy.sli sh (by simp)) vh.2.2 i1 R3 R4 R9 R10 (ga w3 (by omega) (by omega) (by omega)) (ga w4 (by omega) (by omega) (by omega)) i2 i3 (by omega) (by omega) (by omega) (by omega) (by omega) fun Hb Sb hlb h9 h10' => ?_
  refine q1 [] Hb (Sb.weak (by simp)) (by simp) ⟨rfl,hlb,?_,?_⟩
  ·rw [h9,tk k w hw]
  ·rw [h10',tk k w hw]
 refine good72 hJ g RD ⟨rfl,rfl,rfl⟩ ws (by simp; omega) ⟨rfl,hl11,w9,w10⟩ (fun Hb O Sb _ hi => ?_) fun Hb Sb st => st.elim
 obtain ⟨_,i1,i2,i3⟩ := hi
 have hacc : acc (df s).length = worstR p hs s := by
  dsimp only [acc]
  rw [List.take_of_length_le (Nat.le_refl _)]
  rfl
 rw [hacc] at i2 i3
 refine endQnorm i1 (by simp) ?_
 rw [c18_1]
 show ai false 1 (R.r 11) _ _
 rw [R10,R9,Rds]
 have hd' := Sb.get hd11 (by simp; omega)
 have kk := hK ((Hb.set (H10.length + 1) .dead).set H10.length .dead) (((UH.bq Sb (by simp; omega)).set (.inr (by omega))).set (.inr (by omega)))
 unfold wstV at kk
 rw [if_neg (by omega)] at kk
 refine ldI (v := ab (worstR p hs s).2) (cI i3 (by omega)) rfl rfl (dh (ba (fun hx => ?_) fun hx => ?_))
 ·rw [if_pos hx] at kk
  exact retLdef (cI hd' (by omega)) (nu3 (by simp [unk]) (by simp [unk]) (by simp [unk])) kk
 ·rw [if_neg hx] at kk
  refine ldI (v := ay (worstR p hs s).1) (cI i2 (by omega)) rfl rfl (ldI (v := ab (worstR p hs s).2) (cI i3 (by omega)) rfl rfl ?_)
  exact retLdef (cI hd' (by omega)) (nu3 (by simp [unk,ay]) (by simp [unk]) (by simp [unk])) kk
end
end Go.Proofs.YtlhanfcgdfjhjaaGreatDoor
namespace Go.Proofs.YtlhanfcgdfjhjaaGreatDoor
open Go.Conc Go.Proofs.Tryz
set_option maxRecDepth 100000
set_option maxHeartbeats 4000000
set_option linter.unusedVariables false
section
variable {main : Bool} {J : JT} {n0 : Nat} {h : List af} {K : Value → List af → Prop}
theorem at41 : prog.funcs[41]? = some f41 := by kernel_rfl
theorem body41 : f41.body = some (codeOf f41) := by kernel_rfl
def pl41 : bj := []
def ct41 : bB := .go
theorem pok41 : aC prog pl41 (codeOf f41) = true := by kernel_rfl
theorem e41 {a0 a1 a2 : Value} : W prog J 21 h.length 41 (codeOf f41) (RG.mk (ax [a0,a1,a2]) []) h (aq prog [.tmp 6] h.length K) =
(cq a0 h fun v1 h2 =>
cq a1 h2 fun v3 h4 =>
cq a2 h4 fun v5 h6 =>
aL v5 0 fun v7 =>
ai false 1 v7 h6 fun v8 =>
((List.length [(ab 0),(ab 0),(Value.bool false)] = 3 ∧ (24 : Nat) ≤ 1024) ∧ aMkS [(ab 0),(ab 0),(Value.bool false)] v8 v8 h6 fun v9 h10 =>
bo [(Value.slice none 0 0)] h10 fun v11 h12 =>
aB 1 v11 v9 h12 fun h13 =>
ai true 3 v5 h13 fun v14 =>
Good prog J 42 [v14] h13 fun v15 h16 =>
Sem J 21 h.length 41 (aw yp0 (codeOf f41)) (((((((((((RG.mk (ax [a0,a1,a2]) []).p 3 v1).p 4 v3).p 5 v5).p 6 (Value.slice none 0 0)).p 9 v7).p 10 v8).p 11 v9).p 7 v11).p 12 v14).p 13 v15) h16 (aA pl41 prog J 21 h.length 41 ct41 yp0 (codeOf f41) [] (aq prog [.tmp 6] h.length K)))) := aT pok41 ct41 (by kernel_rfl)
theorem g41 (hJ : Closed prog main J) {a0 a1 a2 : Value} (hs : aD h → W prog J 21 h.length 41 (codeOf f41) (RG.mk (ax [a0,a1,a2]) []) h (aq prog [.tmp 6] h.length K)) : Good prog J 41 [a0,a1,a2] h K :=
 az hJ mixed at41 body41 (by kernel_rfl) (Nat.le_of_ble_eq_true rfl) hs
theorem a41_1 {f : RG} {fr : FuncId} {Q : QT} : W prog J 21 n0 fr (aw yp2 (codeOf f41)) f h Q =
(Q .normal (f.p 8 (f.r 14)) h) := sub_eq pok41 ct41 (by kernel_rfl)
theorem b41_1 {f : RG} {fr : FuncId} {Q : QT} : W prog J 21 n0 fr (aw [1,1,0,1,0,1] (codeOf f41)) f h Q =
(ai true 6 (f.r 3) h fun v1 =>
ai false 1 (f.r 4) h fun v2 =>
aMkF 70 [] [(f.r 7)] fun v3 =>
Good prog J 38 [v1,v2,(f.r 8),v3] h fun v4 h5 =>
Q .normal (((((f.p 15 v1).p 16 v2).p 17 (f.r 8)).p 18 v3).p 19 v4) h5) := sub_eq pok41 ct41 (by kernel_rfl)
theorem c41_1 {f : RG} : (aA pl41 prog J 21 n0 41 ct41 yp0 (codeOf f41) [] (aq prog [.tmp 6] n0 K)) .normal f h =
(ai false 1 (f.r 7) h fun v1 =>
aI n0 K f.ds [v1] h) := by kernel_rfl
theorem l41_1 (hJ : Closed prog main J) {f : RG} {g : FuncId} {first cap : List Value} (hx : ev f.r ((Go.Operand.tmp 13)) = .func (.func g) ⟨first⟩ ⟨cap⟩) (hg : g < prog.funcs.size)
 (hs : Good prog J g (first ++ [.func (.yield (h.length + 1)) ⟨[]⟩ ⟨[]⟩] ++ cap) (h ++ [.deferred] ++ [.loop .ready none 41 f.r 21 #[14] (aw yp2 (codeOf f41)) (aw [1,1,0,1,0,1] (codeOf f41)) h.length]) (endQ h.length f (aA pl41 prog J 21 n0 41 ct41 yp0 (codeOf f41) [] (aq prog [.tmp 6] n0 K)))) (hcall : cB prog g = true := by kernel_rfl) : Sem J 21 n0 41 (aw yp0 (codeOf f41)) f h (aA pl41 prog J 21 n0 41 ct41 yp0 (codeOf f41) [] (aq prog [.tmp 6] n0 K)) :=
 Sem_range hJ (by decide) (fop := (Go.Operand.tmp 13)) (params := #[14]) (assign := aw yp2 (codeOf f41)) (body := aw [1,1,0,1,0,1] (codeOf f41)) hx hg hs hcall
theorem at70 : prog.funcs[70]? = some f70 := by kernel_rfl
theorem body70 : f70.body = some (codeOf f70) := by kernel_rfl
def pl70 : bj := [(0,false,.take 0 (.take 1 (.take 2 (.take 3 (.take 4 (.take 5 (.take 6 (.last 7 true (.take 8 (.last 9 false (.fin)))))))))))]
def ct70 : bB := .go
theorem pok70 : aC prog pl70 (codeOf f70) = true := by kernel_rfl
theorem e70 {a0 a1 a2 a3 a4 : Value} : W prog J 18 h.length 70 (codeOf f70) (RG.mk (ax [a0,a1,a2,a3,a4]) []) h (aq prog [] h.length K) =
((∃ B,ai false 1 a4 h fun v1 =>
aR (some B) (au a4) ∧ (ai false 1 a4 h fun v2 =>
aR (some B) (au a4) ∧ (bT 3 v2 a0 fun v3 =>
ai true 3 v3 h fun v4 =>
aR (some B) (au v3) ∧ (Good prog J 71 [v4,a1] h fun v5 h6 =>
aG (some B) h h6 ∧ (bT 3 v1 a0 fun v7 =>
aB 3 v7 v5 h6 fun h8 =>
aI h.length K [] [] h8)))))) := aT pok70 ct70 (by kernel_rfl)
theorem g70 (hJ : Closed prog main J) {a0 a1 a2 a3 a4 : Value} (hs : aD h → W prog J 18 h.length 70 (codeOf f70) (RG.mk (ax [a0,a1,a2,a3,a4]) []) h (aq prog [] h.length K)) : Good prog J 70 [a0,a1,a2,a3,a4] h K :=
 az hJ mixed at70 body70 (by kernel_rfl) (Nat.le_of_ble_eq_true rfl) hs
theorem at71 : prog.funcs[71]? = some f71 := by kernel_rfl
theorem body71 : f71.body = some (codeOf f71) := by kernel_rfl
def pl71 : bj := []
def ct71 : bB := .go
theorem pok71 : aC prog pl71 (codeOf f71) = true := by kernel_rfl
theorem e71 {a0 a1 : Value} : W prog J 20 h.length 71 (codeOf f71) (RG.mk (ax [a0,a1]) []) h (aq prog [.cell 4 90] h.length K) =
(cq a0 h fun v1 h2 =>
bo [(ab 0),(ab 0),(Value.bool false)] h2 fun v3 h4 =>
aL v1 2 fun v5 =>
ai false 1 v5 h4 fun v6 =>
aUn .not v6 fun v7 =>
cnd v7
(aH [(ab 0),(ab 0),(Value.bool false)] [(0,1,a1),(1,1,a1),(2,1,(Value.bool true))] fun c8 =>
aB 3 v3 (Value.agg ⟨c8⟩) h4 fun h9 =>
aq prog [.cell 4 90] h.length K .ret (((((((((RG.mk (ax [a0,a1]) []).p 2 v1).p 4 v3).p 5 v5).p 6 v6).p 7 v7).p 8 a1).p 9 a1).p 10 (Value.agg ⟨c8⟩)) h9)
(aL v1 0 fun v10 =>
ai false 1 v10 h4 fun v11 =>
aMin v11 [a1] fun v12 =>
aL v1 1 fun v13 =>
ai false 1 v13 h4 fun v14 =>
aMax v14 [a1] fun v15 =>
aH [(ab 0),(ab 0),(Value.bool false)] [(0,1,v12),(1,1,v15),(2,1,(Value.bool true))] fun c16 =>
aB 3 v3 (Value.agg ⟨c16⟩) h4 fun h17 =>
aq prog [.cell 4 90] h.length K .ret (((((((((((((((RG.mk (ax [a0,a1]) []).p 2 v1).p 4 v3).p 5 v5).p 6 v6).p 7 v7).p 11 v10).p 12 v11).p 13 a1).p 14 v12).p 15 v13).p 16 v14).p 17 a1).p 18 v15).p 19 (Value.agg ⟨c16⟩)) h17)) := aT pok71 ct71 (by kernel_rfl)
theorem g71 (hJ : Closed prog main J) {a0 a1 : Value} (hs : aD h → W prog J 20 h.length 71 (codeOf f71) (RG.mk (ax [a0,a1]) []) h (aq prog [.cell 4 90] h.length K)) : Good prog J 71 [a0,a1] h K :=
 az hJ mixed at71 body71 (by kernel_rfl) (Nat.le_of_ble_eq_true rfl) hs
theorem at16 : prog.funcs[16]? = some f16 := by kernel_rfl
theorem body16 : f16.body = some (codeOf f16) := by kernel_rfl
def pl16 : bj := []
def ct16 : bB := .go
theorem pok16 : aC prog pl16 (codeOf f16) = true := by kernel_rfl
theorem e16 {a0 a1 a2 : Value} : W prog J 38 h.length 16 (codeOf f16) (RG.mk (ax [a0,a1,a2]) []) h (aq prog [.tmp 6,.tmp 7] h.length K) =
(cq a0 h fun v1 h2 =>
cq a2 h2 fun v3 h4 =>
ai true 6 v1 h4 fun v5 =>
ai true 3 v3 h4 fun v6 =>
Good prog J 40 [v5,a1,v6] h4 fun v7 h8 =>
aj prog .neq 35 v7 (ab 0) fun v9 =>
cnd v9
(aI h.length K [] [(Value.slice none 0 0),v7] h8)
(ai true 6 v1 h8 fun v10 =>
ai true 3 v3 h8 fun v11 =>
Good prog J 41 [v10,a1,v11] h8 fun v12 h13 =>
b0 v12 fun v14 =>
Sem J 38 h.length 16 (aw yp1 (codeOf f16)) (((((((((((((((((((RG.mk (ax [a0,a1,a2]) []).p 3 v1).p 5 v3).p 6 (Value.slice none 0 0)).p 7 (ab 0)).p 12 v5).p 13 a1).p 14 v6).p 15 v7).p 8 v7).p 16 v7).p 17 v9).p 9 (Value.slice none 0 0)).p 19 v10).p 20 a1).p 21 v11).p 22 v12).p 23 v14).p 24 (ab 0)) h13 (aA pl16 prog J 38 h.length 16 ct16 yp1 (codeOf f16) [] (aq prog [.tmp 6,.tmp 7] h.length K)))) := aT pok16 ct16 (by kernel_rfl)
theorem g16 (hJ : Closed prog main J) {a0 a1 a2 : Value} (hs : aD h → W prog J 38 h.length 16 (codeOf f16) (RG.mk (ax [a0,a1,a2]) []) h (aq prog [.tmp 6,.tmp 7] h.length K)) : Good prog J 16 [a0,a1,a2] h K :=
 az hJ mixed at16 body16 (by kernel_rfl) (Nat.le_of_ble_eq_true rfl) hs
theorem s16_1 {f : RG} {nx0 : RG → List af → Prop} : W prog J 38 n0 16 (aw yp3 (codeOf f16)) f h (bc nx0 (aA pl16 prog J 38 n0 16 ct16 yp1 (codeOf f16) [] (aq prog [.tmp 6,.tmp 7] n0 K))) =
(aj prog .lss 3 (f.r 24) (f.r 23) fun v1 =>
cnd v1
(bT 3 (f.r 22) (f.r 24) fun v2 =>
ai true 3 v2 h fun v3 =>
bo [(ab 0),(ab 0),(Value.bool false)] h fun v4 h5 =>
aB 3 v4 v3 h5 fun h6 =>
aL v4 0 fun v7 =>
ai false 1 v7 h6 fun v8 =>
aL v4 1 fun v9 =>
ai false 1 v9 h6 fun v10 =>
aH [(ab 0),(ab 0)] [(0,1,v8),(1,1,v10)] fun c11 =>
(((1 * 2 : Nat) ≤ 16777216 ∧ (1 : Nat) ≤ 16777216 ∧ List.length [(ab 0),(ab 0)] = 2) ∧ aH (aV [(ab 0),(ab 0)] 1) [(0,2,(Value.agg ⟨c11⟩))] fun c12 =>
aX 1 c12 h6 fun v13 h14 =>
((List.length [(ab 0),(ab 0)] = 2 ∧ 0 < (2 : Nat) ∧ 0 < (16 : Nat) ∧ (16 : Nat) ≤ 1024) ∧ aApp 2 (f.r 9) v13 h14 fun v15 h16 =>
aj prog .add 3 (f.r 24) (ab 1) fun v17 =>
nx0 (((((((((((((((f.p 25 v1).p 26 v2).p 27 v3).p 11 v4).p 28 (f.r 9)).p 29 v7).p 30 v8).p 31 v9).p 32 v10).p 33 (Value.agg ⟨c11⟩)).p 34 v13).p 35 v15).p 9 v15).p 36 v17).p 24 v17) h16)))
(aI n0 K f.ds [(f.r 9),(ab 0)] h)) := sub_eq pok16 ct16 (by kernel_rfl)
theorem l16_1 (hJ : Closed prog main J) {S : Type} (μ : S → Nat) (I : S → RG → List af → Prop) (hI : ∀ s f h,I s f h → aD h → n0 ≤ h.length → W prog J 38 n0 16 (aw yp3 (codeOf f16)) f h (bc (Nx n0 μ I s) (aA pl16 prog J 38 n0 16 ct16 yp1 (codeOf f16) [] (aq prog [.tmp 6,.tmp 7] n0 K))))
 {s : S} {f : RG} (hi : dJ n0 I s f h) : Sem J 38 n0 16 (aw yp1 (codeOf f16)) f h (aA pl16 prog J 38 n0 16 ct16 yp1 (codeOf f16) [] (aq prog [.tmp 6,.tmp 7] n0 K)) :=
 bn hJ mixed (b := aw yp3 (codeOf f16)) (by kernel_rfl) μ I hI hi
end
section
variable {main : Bool} {J : JT} {n0 : Nat} {h : List af} {K : Value → List af → Prop}
theorem at37 : prog.funcs[37]? = some f37 := by kernel_rfl
theorem body37 : f37.body = some (codeOf f37) := by kernel_rfl
def pl37 : bj := []
def ct37 : bB := .bin (.go) (.bin (.go) (.bin (.go) (.bin (.bin (.go) (.un (.un (.bin (.go) (.bin (.go) (.bin (.un (.bin (.go) (.bin (.go) (.cut (.go))))) (.go))))))) (.go))))
theorem pok37 : aC prog pl37 (codeOf f37) = true := by kernel_rfl
abbrev w37 (J : JT) (n0 : Nat) (p : List Nat) (f : RG) (h : List af) (l : List (RG → List af → Prop)) (K : Value → List af → Prop) : Prop := W prog J 43 n0 37 (aw p (codeOf f37)) f h (aA pl37 prog J 43 n0 37 ct37 p (codeOf f37) l (aq prog [.tmp 6] n0 K))
theorem e37 {a0 a1 a2 : Value} : W prog J 43 h.length 37 (codeOf f37) (RG.mk (ax [a0,a1,a2]) []) h (aq prog [.tmp 6] h.length K) =
(cq a0 h fun v1 h2 =>
ai true 6 v1 h2 fun v3 =>
Good prog J 27 [v3] h2 fun v4 h5 =>
bA a2 fun v6 =>
Good prog J 46 [v6,(ab 1),(ab 8)] h5 fun v7 h8 =>
(((2 * 1 : Nat) ≤ 16777216 ∧ (2 : Nat) ≤ 16777216 ∧ List.length [(ab 0)] = 1) ∧ aH (aV [(ab 0)] 2) [(0,1,v4),(1,1,v7)] fun c9 =>
aX 2 c9 h8 fun v10 h11 =>
Good prog J 26 [v10] h11 fun v12 h13 =>
aj prog .neq 35 v12 (ab 0) fun v14 =>
cnd v14
(aI h.length K [] [v12] h13)
(bA a2 fun v15 =>
Good prog J 67 [a1,v15] h13 fun v16 h17 =>
aj prog .neq 35 v16 (ab 0) fun v18 =>
cnd v18
(aI h.length K [] [v16] h17)
(bA a2 fun v19 =>
Sem J 43 h.length 37 (aw yp1 (codeOf f37)) (((((((((((((((((((((((RG.mk (ax [a0,a1,a2]) []).p 3 v1).p 6 (ab 0)).p 10 v3).p 11 v4).p 12 a2).p 13 v6).p 14 v7).p 15 v10).p 16 v12).p 7 v12).p 17 v12).p 18 v14).p 20 a1).p 21 a2).p 22 v15).p 23 v16).p 8 v16).p 24 v16).p 25 v18).p 27 a2).p 28 v19).p 29 (ab 0)) h17 (aA pl37 prog J 43 h.length 37 ct37 yp1 (codeOf f37) [] (aq prog [.tmp 6] h.length K)))))) := aT pok37 ct37 (by kernel_rfl)
theorem g37 (hJ : Closed prog main J) {a0 a1 a2 : Value} (hs : aD h → W prog J 43 h.length 37 (codeOf f37) (RG.mk (ax [a0,a1,a2]) []) h (aq prog [.tmp 6] h.length K)) : Good prog J 37 [a0,a1,a2] h K :=
 az hJ mixed at37 body37 (by kernel_rfl) (Nat.le_of_ble_eq_true rfl) hs
theorem s37_1 {f : RG} {nx0 : RG → List af → Prop} : W prog J 43 n0 37 (aw yp3 (codeOf f37)) f h (bc nx0 (aA pl37 prog J 43 n0 37 ct37 yp1 (codeOf f37) [] (aq prog [.tmp 6] n0 K))) =
(aj prog .lss 3 (f.r 29) (f.r 28) fun v1 =>
cnd v1
(bX (f.r 2) (f.r 29) fun v2 =>
aj prog .neq 5 v2 (Value.int .u8 100) fun v3 =>
cnd v3
(bX (f.r 2) (f.r 29) fun v4 =>
aj prog .neq 5 v4 (Value.int .u8 119) fun v5 =>
bh (w37 J n0 yp13 ((((((((((((((f.p 30 v1).p 31 (f.r 29)).p 9 (f.r 29)).p 32 (f.r 2)).p 33 (f.r 29)).p 34 v2).p 35 v3).p 36 v3).p 36 (Value.bool true)).p 37 (f.r 2)).p 38 (f.r 29)).p 39 v4).p 40 v5).p 41 v5) h [nx0] K))
(bh (w37 J n0 yp13 ((((((((((((((f.p 30 v1).p 31 (f.r 29)).p 9 (f.r 29)).p 32 (f.r 2)).p 33 (f.r 29)).p 34 v2).p 35 v3).p 36 v3).p 36 (Value.bool false)).p 37 undef).p 38 undef).p 39 undef).p 40 undef).p 41 (Value.bool false)) h [nx0] K)))
(aI n0 K f.ds [(ab 0)] h)) := sub_eq pok37 ct37 (by kernel_rfl)
theorem l37_1 (hJ : Closed prog main J) {S : Type} (μ : S → Nat) (I : S → RG → List af → Prop) (hI : ∀ s f h,I s f h → aD h → n0 ≤ h.length → W prog J 43 n0 37 (aw yp3 (codeOf f37)) f h (bc (Nx n0 μ I s) (aA pl37 prog J 43 n0 37 ct37 yp1 (codeOf f37) [] (aq prog [.tmp 6] n0 K))))
 {s : S} {f : RG} (hi : dJ n0 I s f h) : Sem J 43 n0 37 (aw yp1 (codeOf f37)) f h (aA pl37 prog J 43 n0 37 ct37 yp1 (codeOf f37) [] (aq prog [.tmp 6] n0 K)) :=
 bn hJ mixed (b := aw yp3 (codeOf f37)) (by kernel_rfl) μ I hI hi
theorem s37_2 {f : RG} {nx0 : RG → List af → Prop} : w37 J n0 yp13 f h [nx0] K =
(cnd (f.r 41)
(aI n0 K f.ds [(ab 2)] h)
(aj prog .add 3 (f.r 29) (ab 1) fun v1 =>
nx0 ((f.p 42 v1).p 29 v1) h)) := sub_eq pok37 ct37 (by kernel_rfl)
theorem at38 : prog.funcs[38]? = some f38 := by kernel_rfl
theorem body38 : f38.body = some (codeOf f38) := by kernel_rfl
def pl38 : bj := [(5,true,.take 0 (.take 1 (.take 2 (.take 3 (.take 4 (.take 5 (.take 6 (.take 7 (.take 8 (.last 9 false (.take 10 (.take 11 (.take 12 (.take 13 (.take 14 (.fin))))))))))))))))]
def ct38 : bB := .go
theorem pok38 : aC prog pl38 (codeOf f38) = true := by kernel_rfl
theorem e38 {a0 a1 a2 a3 : Value} : W prog J 43 h.length 38 (codeOf f38) (RG.mk (ax [a0,a1,a2,a3]) []) h (aq prog [] h.length K) =
(cq a0 h fun v1 h2 =>
ai true 6 v1 h2 fun v3 =>
Good prog J 68 [v3] h2 fun v4 h5 =>
bA a2 fun v6 =>
Sem J 43 h.length 38 (aw [1,1,1,0] (codeOf f38)) ((((((((RG.mk (ax [a0,a1,a2,a3]) []).p 4 v1).p 12 v3).p 13 v4).p 8 v4).p 14 a2).p 15 v6).p 16 (ab 0)) h5 (aA pl38 prog J 43 h.length 38 ct38 [1,1,1,0] (codeOf f38) [] (aq prog [] h.length K))) := aT pok38 ct38 (by kernel_rfl)
theorem g38 (hJ : Closed prog main J) {a0 a1 a2 a3 : Value} (hs : aD h → W prog J 43 h.length 38 (codeOf f38) (RG.mk (ax [a0,a1,a2,a3]) []) h (aq prog [] h.length K)) : Good prog J 38 [a0,a1,a2,a3] h K :=
 az hJ mixed at38 body38 (by kernel_rfl) (Nat.le_of_ble_eq_true rfl) hs
theorem s38_1 {f : RG} {nx0 : RG → List af → Prop} : W prog J 43 n0 38 (aw [1,1,1,0,0] (codeOf f38)) f h (bc nx0 (aA pl38 prog J 43 n0 38 ct38 [1,1,1,0] (codeOf f38) [] (aq prog [] n0 K))) =
(aj prog .lss 3 (f.r 16) (f.r 15) fun v1 =>
cnd v1
(bT 1 (f.r 1) (f.r 16) fun v2 =>
ai false 1 v2 h fun v3 =>
bX (f.r 2) (f.r 16) fun v4 =>
aj prog .eql 5 v4 (Value.int .u8 119) fun v5 =>
Good prog J 69 [(f.r 8),v3,v5] h fun v6 h7 =>
bL v6 0 fun v8 =>
bL v6 1 fun v9 =>
cJ (f.r 8) fun v10 =>
aL v10 6 fun v11 =>
aL v11 0 fun v12 =>
ai false 1 v12 h7 fun v13 =>
dC prog (Good prog J) (f.r 3) [(f.r 16),v13,v8,v9] h7 fun v14 h15 =>
aj prog .add 3 (f.r 16) (ab 1) fun v16 =>
nx0 ((((((((((((((((((((((((((((((f.p 17 v1).p 18 (f.r 16)).p 9 (f.r 16)).p 20 (f.r 8)).p 21 (f.r 1)).p 22 (f.r 16)).p 23 v2).p 24 v3).p 25 (f.r 2)).p 26 (f.r 16)).p 27 v4).p 28 v5).p 29 v6).p 19 v6).p 30 v8).p 31 v9).p 10 v8).p 11 v9).p 32 (f.r 3)).p 33 (f.r 16)).p 34 (f.r 8)).p 35 v10).p 36 v11).p 37 v12).p 38 v13).p 39 v8).p 40 v9).p 41 v14).p 42 v16).p 16 v16) h15)
(aI n0 K f.ds [] h)) := sub_eq pok38 ct38 (by kernel_rfl)
theorem l38_1 (hJ : Closed prog main J) {S : Type} (μ : S → Nat) (I : S → RG → List af → Prop) (hI : ∀ s f h,I s f h → aD h → n0 ≤ h.length → W prog J 43 n0 38 (aw [1,1,1,0,0] (codeOf f38)) f h (bc (Nx n0 μ I s) (aA pl38 prog J 43 n0 38 ct38 [1,1,1,0] (codeOf f38) [] (aq prog [] n0 K))))
 {s : S} {f : RG} (hi : dJ n0 I s f h) : Sem J 43 n0 38 (aw [1,1,1,0] (codeOf f38)) f h (aA pl38 prog J 43 n0 38 ct38 [1,1,1,0] (codeOf f38) [] (aq prog [] n0 K)) :=
 bn hJ mixed (b := aw [1,1,1,0,0] (codeOf f38)) (by kernel_rfl) μ I hI hi
theorem at14 : prog.funcs[14]? = some f14 := by kernel_rfl
theorem body14 : f14.body = some (codeOf f14) := by kernel_rfl
def pl14 : bj := []
def ct14 : bB := .go
theorem pok14 : aC prog pl14 (codeOf f14) = true := by kernel_rfl
theorem e14 {a0 a1 a2 : Value} : W prog J 23 h.length 14 (codeOf f14) (RG.mk (ax [a0,a1,a2]) []) h (aq prog [.tmp 6,.tmp 7] h.length K) =
(cq a0 h fun v1 h2 =>
ai true 6 v1 h2 fun v3 =>
Good prog J 37 [v3,a1,a2] h2 fun v4 h5 =>
aj prog .neq 35 v4 (ab 0) fun v6 =>
cnd v6
(aI h.length K [] [(Value.slice none 0 0),v4] h5)
(bo [(Value.slice none 0 0)] h5 fun v7 h8 =>
ai true 6 v1 h8 fun v9 =>
aMkF 39 [] [v7] fun v10 =>
Good prog J 38 [v9,a1,a2,v10] h8 fun v11 h12 =>
ai false 1 v7 h12 fun v13 =>
aI h.length K [] [v13,(ab 0)] h12)) := aT pok14 ct14 (by kernel_rfl)
theorem g14 (hJ : Closed prog main J) {a0 a1 a2 : Value} (hs : aD h → W prog J 23 h.length 14 (codeOf f14) (RG.mk (ax [a0,a1,a2]) []) h (aq prog [.tmp 6,.tmp 7] h.length K)) : Good prog J 14 [a0,a1,a2] h K :=
 az hJ mixed at14 body14 (by kernel_rfl) (Nat.le_of_ble_eq_true rfl) hs
theorem at39 : prog.funcs[39]? = some f39 := by kernel_rfl
theorem body39 : f39.body = some (codeOf f39) := by kernel_rfl
def pl39 : bj := []
def ct39 : bB := .go
theorem pok39 : aC prog pl39 (codeOf f39) = true := by kernel_rfl
theorem e39 {a0 a1 a2 a3 a4 : Value} : W prog J 13 h.length 39 (codeOf f39) (RG.mk (ax [a0,a1,a2,a3,a4]) []) h (aq prog [] h.length K) =
(ai false 1 a4 h fun v1 =>
(((1 * 1 : Nat) ≤ 16777216 ∧ (1 : Nat) ≤ 16777216 ∧ List.length [(ab 0)] = 1) ∧ aH (aV [(ab 0)] 1) [(0,1,a1)] fun c2 =>
aX 1 c2 h fun v3 h4 =>
((List.length [(ab 0)] = 1 ∧ 0 < (1 : Nat) ∧ 0 < (8 : Nat) ∧ (8 : Nat) ≤ 1024) ∧ aApp 1 v1 v3 h4 fun v5 h6 =>
aB 1 a4 v5 h6 fun h7 =>
aI h.length K [] [] h7))) := aT pok39 ct39 (by kernel_rfl)
theorem g39 (hJ : Closed prog main J) {a0 a1 a2 a3 a4 : Value} (hs : aD h → W prog J 13 h.length 39 (codeOf f39) (RG.mk (ax [a0,a1,a2,a3,a4]) []) h (aq prog [] h.length K)) : Good prog J 39 [a0,a1,a2,a3,a4] h K :=
 az hJ mixed at39 body39 (by kernel_rfl) (Nat.le_of_ble_eq_true rfl) hs
end
end Go.Proofs.YtlhanfcgdfjhjaaGreatDoor
namespace Go.Proofs.YtlhanfcgdfjhjaaGreatDoor
open Go.Conc Go.Proofs.Tryz
set_option maxRecDepth 100000
def wordOk (w : List UInt8) : Prop := ∀ b ∈ w,b = 100 ∨ b = 119
instance (w : List UInt8) : Decidable (wordOk w) := by unfold wordOk; infer_instance
def askE (p : Pas) (heads : List Int) (w : List UInt8) : Int :=
 if cQ (bR p) (cntE w.length 1 8) ≠ 0 then cQ (bR p) (cntE w.length 1 8) else if hunE heads w.length ≠ 0 then hunE heads w.length else if wordOk w then 0 else 2
def endsZ (p : Pas) (heads : List Int) (w : List UInt8) (k : Nat) : List Int := (List.range k).map fun i => (stdR p heads w (i + 1)).1
theorem endsZ_succ {p : Pas} {heads : List Int} {w : List UInt8} {k : Nat} : endsZ p heads w (k + 1) = endsZ p heads w k ++ [(stdR p heads w (k + 1)).1] := by
 unfold endsZ
 rw [List.range_succ,List.map_append]
 rfl
section
variable {main : Bool} {J : JT} {h H : List af} {K : Value → List af → Prop} {KV : Value → Prop} {HL : List af → Prop} {n0 : Nat}
theorem good38 (hJ : Closed prog main J) {h0 : List af} {p : Pas} {heads : List Int} {w : List UInt8} {hv cb : Value} (f : cA p) (hh : headsOk heads) (S0 : ag [] h0 H) (sh : Sli h0 hv 1 heads.length (heads.map ab)) (hl : w.length ≤ heads.length) (hw : w.length ≤ 1000)
  {I : Nat → List Nat → List af → Prop} {O0 : List Nat} (hO : ∀ x ∈ O0,h0.length ≤ x) (hI : I 0 O0 H) (lt : ∀ k O H1,I k O H1 → ∀ x ∈ O,x < H1.length) (mono : ∀ k O H1 H2 X,I k O H1 → ag X H1 H2 → (∀ x ∈ O,x ∉ X) → I k O H2)
  (step : ∀ k O H1 (K1 : Value → List af → Prop),I k O H1 → k < w.length → (∀ O' H2 v,I (k + 1) O' H2 → ag O H1 H2 → (∀ x ∈ O',x ∈ O ∨ H1.length ≤ x) → K1 v H2) → dC prog (Good prog J) cb [ab (k : Nat),ab (stdR p heads w (k + 1)).1,.bool (hungAt p heads w k),.bool (shortAt p heads w k)] H1 K1)
  (hK : ∀ O H',I w.length O H' → ag O0 H H' → K (pack []) H') : Good prog J 38 [.agg ⟨p.cells⟩,hv,ay w,cb] H K := by
 refine g38 hJ fun ok => ?_
 rw [e38]
 refine dk (l := p.cells) rfl fun H1 p1 e1 S1 c1 l1 => ar (c := p.cells) c1 (by simp [Pas.cells]) rfl rfl ?_
 refine good68 hJ fun H2 m em S2 c2 hm => lenStrI ?_
 have T2 := S1.trans S2
 have hlt0 := lt _ _ _ hI
 have l21 := S2.1
 refine l38_1 hJ (fun k : Nat => w.length - k) (fun k F H' => k ≤ w.length ∧ ag O0 H H' ∧ H'[m]? = some (.cells (medC p (stdR p heads w k)) true 0) ∧ (∃ O,I k O H' ∧ m ∉ O ∧ ∀ x ∈ O,x ∈ O0 ∨ H.length ≤ x) ∧ F.ds = [] ∧ F.r 1 = hv ∧ F.r 2 = ay w ∧ F.r 3 = cb ∧ F.r 8 = ptr m 0 ∧ F.r 15 = ab (w.length : Nat) ∧ F.r 16 = ab (k : Nat)) ?_ (s := 0)
  (.inl ⟨by omega,T2.bN,c2,⟨O0,mono _ _ _ _ _ hI T2 (by simp),fun hx => by have := hlt0 m hx; omega,fun x hx => .inl hx⟩,rfl,rfl,rfl,rfl,rfl,rfl,rfl⟩)
 rintro k F H' ⟨hk,S,cm,⟨O,hIk,hmO,hOO⟩,ds,r1,r2,r3,r8,r15,r16⟩ okc hnc
 rw [s38_1,r1,r2,r3,r8,r15,r16,ds]
 refine dh (ba (fun hlt => ?_) fun hge => ?_)
 rotate_left
 ·have : k = w.length := by omega
  subst this
  exact ao (by simp) (hK O H' hIk S)
 have hkl : k < w.length := by omega
 have hx : heads[k]? = some (heads.getD k 0) := by
  rw [List.getD_eq_getElem?_getD,List.getElem?_eq_getElem (by omega)]
  rfl
 have hb : w[k]? = some (w.getD k 0) := by
  rw [List.getD_eq_getElem?_getD,List.getElem?_eq_getElem hkl]
  rfl
 have hbd := headsOk_getD hh k
 have S0' : ag O0 h0 H' := S0.bN.bq S fun x hx => .inl hx
 refine sliN (S0'.sli sh hO) hx fun q => byteI hb (eqlW ?_)
 refine good69 hJ cm f (stdR_ok f hh k) ⟨hbd.1,by omega⟩ fun H3 S3 c3 => ext0 (ext1 (ec (aQ (aQ (ldI (v := ab (stdR p heads w (k + 1)).1) c3 rfl rfl ?_)))))
 have hm1 := ah cm
 have hm3 := ah c3
 refine step k O H3 _ (mono _ _ _ _ _ hIk S3 fun x hx e => hmO (by rw [← List.mem_singleton.1 e]; exact hx)) hkl fun O' H4 v hI4 S4 hO4 => ?_
 have h3 := S3.1
 have h0 := S.1
 refine ck (by omega) ⟨k + 1,by dsimp only; omega,.inl ⟨by omega,?_,S4.get c3 hmO,⟨O',hI4,fun hx => ?_,fun x hx => ?_⟩,ds,r1,r2,r3,r8,r15,by show ab _ = ab _; congr 1⟩⟩
 ·refine (S.bq S3 fun x hx => ?_).bq S4 hOO
  rw [List.mem_singleton.1 hx]
  right
  have := S1.1
  omega
 ·rcases hO4 m hx with h | h
  ·exact hmO h
  ·omega
 ·rcases hO4 x hx with h | h
  ·exact hOO x h
  ·right
   omega
theorem wordOk_step {w : List UInt8} {k : Nat} (h : ∀ i,i < k → ∀ b,w[i]? = some b → b = 100 ∨ b = 119) {b : UInt8} (hb : w[k]? = some b) (h2 : b = 100 ∨ b = 119) : ∀ i,i < k + 1 → ∀ b,w[i]? = some b → b = 100 ∨ b = 119 := fun i hi c hc => by
 by_cases e : i = k
 ·rw [e,hb] at hc
  cases hc
  exact h2
 ·exact h i (by omega) c hc
theorem good37 (hJ : Closed prog main J) {p : Pas} {heads : List Int} {w : List UInt8} {hv : Value} (sh : Sli H hv 1 heads.length (heads.map ab)) (hl : heads.length < 1000000) (hw : w.length ≤ 1000000)
  (hK : ∀ H',ag [] H H' → K (ab (askE p heads w)) H') : Good prog J 37 [.agg ⟨p.cells⟩,hv,ay w] H K := by
 refine g37 hJ fun ok => ?_
 rw [e37]
 refine dk (l := p.cells) rfl fun H1 p1 e1 S1 c1 l1 => ar (c := p.cells) c1 (by simp [Pas.cells]) rfl rfl ?_
 refine good27 hJ (lenStrI (good46 hJ ⟨⟨by decide,by decide,rfl⟩,aK (l := [ab (bR p)]) rfl rfl rfl (by decide) (aK (l := [ab (cntE w.length 1 8)]) rfl rfl rfl (by rw [aW]; decide) (bu (du fun H2 p2 e2 S2 c2 l2 => ?_)))⟩))
 have T := S1.trans S2
 refine good26 hJ (a := bR p) (b := cntE w.length 1 8) ⟨_,_,rfl,⟨rfl,rfl⟩,.inr ⟨p2,0,rfl,.inr ⟨_,_,_,c2,rfl⟩⟩⟩ ?_
 unfold askE at hK
 refine neqI (ba (fun h1 => ao (by simp [unk]) ?_) fun h1 => lenStrI ?_)
 ·have := hK H2 T
  rw [if_pos h1] at this
  exact this
 rw [if_neg h1] at hK
 refine good67 hJ (T.sli sh (by simp)) hl (neqI (ba (fun h2 => ao (by simp [unk]) ?_) fun h2 => lenStrI ?_))
 ·have := hK H2 T
  rw [if_pos h2] at this
  exact this
 rw [if_neg h2] at hK
 refine l37_1 hJ (fun k : Nat => w.length - k) (fun k F H' => k ≤ w.length ∧ ag [] H H' ∧ (∀ i,i < k → ∀ b,w[i]? = some b → b = 100 ∨ b = 119) ∧ F.ds = [] ∧ F.r 2 = ay w ∧ F.r 28 = ab (w.length : Nat) ∧ F.r 29 = ab (k : Nat)) ?_ (s := 0)
  (.inl ⟨by omega,T,fun i hi => absurd hi (Nat.not_lt_zero _),rfl,rfl,rfl,rfl⟩)
 rintro k F H' ⟨hk,S,hg,ds,r2,r28,r29⟩ okc hnc
 rw [s37_1,r2,r28,r29,ds]
 refine dh (ba (fun hlt => ?_) fun hge => ?_)
 rotate_left
 ·have : k = w.length := by omega
  subst this
  have := hK H' S
  have hwk : wordOk w := fun b hb => by
   obtain ⟨i,hi⟩ := List.getElem?_of_mem hb
   exact hg i (List.getElem?_eq_some_iff.1 hi).1 b hi
  rw [if_pos hwk] at this
  exact ao (by simp [unk]) this
 have hkl : k < w.length := by omega
 obtain ⟨b,hb⟩ : ∃ b,w[k]? = some b := ⟨_,List.getElem?_eq_getElem hkl⟩
 have e100 : (Value.int .u8 100) = .int .u8 (100 : UInt8).toNat := rfl
 have e119 : (Value.int .u8 119) = .int .u8 (119 : UInt8).toNat := rfl
 rw [e100,e119]
 have next : ∀ {F2 : RG} {z : Bool},F2.ds = [] → F2.r 2 = ay w → F2.r 28 = ab (w.length : Nat) → F2.r 29 = ab (k : Nat) → F2.r 41 = .bool z → (z = true ↔ ¬ (b = 100 ∨ b = 119)) →
   w37 J H.length yp13 F2 H' [Nx H.length (fun k : Nat => w.length - k) (fun k F H' => k ≤ w.length ∧ ag [] H H' ∧ (∀ i,i < k → ∀ b,w[i]? = some b → b = 100 ∨ b = 119) ∧ F.ds = [] ∧ F.r 2 = ay w ∧ F.r 28 = ab (w.length : Nat) ∧ F.r 29 = ab (k : Nat)) k] K := by
  intro F2 z ds r2 r28 r29 r41 hz
  rw [s37_2,r41,r29,ds]
  refine cndB (fun h1 => ao (by simp [unk]) ?_) fun h1 => ?_
  ·have := hK H' S
   rw [if_neg (fun hw : wordOk w => hz.1 h1 (hw b (List.mem_of_getElem? hb)))] at this
   exact this
  ·have hb2 : b = 100 ∨ b = 119 := Classical.byContradiction fun hn => by
    rw [hz.2 hn] at h1
    cases h1
   exact ck (by omega) ⟨k + 1,by dsimp only; omega,.inl ⟨by omega,S,wordOk_step hg hb hb2,ds,r2,r28,by show ab _ = ab _; congr 1⟩⟩
 refine byteI hb (neqU (ba (fun hn => ?_) fun hn => hold.2 ?_))
 ·refine byteI hb (neqU (hold.2 (next (z := decide (b ≠ 119)) ds r2 r28 r29 rfl ?_)))
  rw [decide_eq_true_iff]
  exact ⟨fun h1 h2 => h2.elim hn h1,fun h e => h (.inr e)⟩
 ·refine next (z := false) ds r2 r28 r29 rfl ⟨fun h => (by cases h),fun h => absurd (.inl (Classical.not_not.1 hn)) h⟩
theorem good39 (hJ : Closed prog main J) {q k : Nat} {x : Int} {a0 a2 a3 v : Value} {xs : List Int} {o : Option Nat} (hq : H[q]? = some (.cells [v] true 0)) (O : OwnX H 1 (xs.map ab) k v o) (hne : o ≠ some q) (hk : k < 100000)
  (hK : ∀ H' v' o',ag (q :: o.toList) H H' → H'[q]? = some (.cells [v'] true 0) → OwnX H' 1 ((xs ++ [x]).map ab) (k + 1) v' o' → o' ≠ some q → (∀ i,o' = some i → H.length ≤ i) → K (pack []) H') : Good prog J 39 [a0,ab x,a2,a3,ptr q 0] H K := by
 refine g39 hJ fun ok => ?_
 rw [e39]
 have kv := (ownX_val O).2.2
 refine ldI (v := v) hq rfl kv ⟨⟨by decide,by decide,rfl⟩,aK (l := [ab x]) rfl rfl rfl (by decide) (bu (du fun H1 p1 e1 S1 c1 l1 => ?_))⟩
 have hq1 := S1.get hq (by simp)
 have lq := ah hq
 refine ⟨⟨rfl,by decide,by decide,by decide⟩,ownX_more (dI O S1 (by simp)) (by decide) hk (e := [ab x]) ⟨_,_,rfl,⟨rfl,rfl⟩,.inr ⟨p1,0,rfl,.inr ⟨_,_,_,c1,rfl⟩⟩⟩ fun v' H2 p2 e2 O2 S2 => ?_⟩
 have hq2 : H2[q]? = some (.cells [v] true 0) := S2.get hq1 (by
  cases o with
  | none => simp
  | some i => simp; exact fun e => hne (by rw [e]))
 have vv := ownX_val O2
 refine qSt hq2 (by simp) vv.1 vv.2.1 fun H3 S3 c3 l3 => ao (by simp) (hK H3 v' (some p2) ?_ c3 ?_ (by simp; omega) fun i hi => by cases hi; omega)
 ·refine ((S1.bN.bq S2 fun y hy => .inl (by simp [hy])).bq S3 fun y hy => .inl (by simp at hy; simp [hy]) : ag (q :: o.toList) H H3)
 ·rw [List.map_append]
  exact dI O2 S3 (fun i hi => by cases hi; simp; omega)
theorem cntE_zero {n lo hi : Int} (h : cntE n lo hi = 0) : lo ≤ n ∧ n ≤ hi := by
 unfold cntE at h
 split at h
 ·cases h
 ·split at h
  ·cases h
  ·omega
theorem askE_ok {p : Pas} {heads : List Int} {w : List UInt8} (h : askE p heads w = 0) : cA p ∧ (1 ≤ w.length ∧ w.length ≤ 8) ∧ heads.length = w.length ∧ headsOk heads ∧ wordOk w := by
 unfold askE at h
 split at h
 ·contradiction
 rename_i h1
 have h1 := Classical.not_not.1 h1
 split at h
 ·contradiction
 rename_i h2
 have h2 := Classical.not_not.1 h2
 split at h
 ·rename_i h3
  unfold cQ at h1
  split at h1
  ·contradiction
  rename_i h4
  have h4 := Classical.not_not.1 h4
  have h5 := cntE_zero h1
  have hp : cA p := Classical.byContradiction fun hn => by
   unfold bR at h4
   rw [if_neg hn] at h4
   cases h4
  unfold hunE at h2
  split at h2
  ·contradiction
  rename_i h6
  have h6 := cntE_zero (Classical.not_not.1 h6)
  split at h2
  ·rename_i h7
   exact ⟨hp,by omega,by omega,h7,h3⟩
  ·cases h2
 ·cases h
theorem good14 (hJ : Closed prog main J) {p : Pas} {heads : List Int} {w : List UInt8} {hv : Value} (sh : Sli H hv 1 heads.length (heads.map ab)) (hl : heads.length < 1000000) (hw : w.length ≤ 1000000)
  (hK0 : askE p heads w ≠ 0 → ∀ H',ag [] H H' → K (.tuple ⟨[.slice none 0 0,ab (askE p heads w)]⟩) H')
  (hK1 : askE p heads w = 0 → ∀ H' v,ag [] H H' → Sli H' v 1 w.length ((endsZ p heads w w.length).map ab) → K (.tuple ⟨[v,ab 0]⟩) H') : Good prog J 14 [.agg ⟨p.cells⟩,hv,ay w] H K := by
 refine g14 hJ fun ok => ?_
 rw [e14]
 refine dk (l := p.cells) rfl fun H1 p1 e1 S1 c1 l1 => ar (c := p.cells) c1 (by simp [Pas.cells]) rfl rfl ?_
 refine good37 hJ (S1.sli sh (by simp)) hl hw fun H2 S2 => neqI (ba (fun h1 => ao (by simp [unk]) (hK0 h1 H2 (S1.trans S2))) fun h1 => ?_)
 have h1 := Classical.not_not.1 h1
 obtain ⟨fp,fw,fl,fh,fo⟩ := askE_ok h1
 have T2 := S1.trans S2
 refine qAl fun H3 q e3 S3 c3 l3 => ar (c := p.cells) (S3.get (S2.get c1 (by simp)) (by simp)) (by simp [Pas.cells]) rfl rfl ⟨rfl,?_⟩
 have T3 := T2.trans S3
 have hqH : H.length ≤ q := by
  have := T2.1
  omega
 refine good38 hJ fp fh T3 sh (by omega) (by omega) (O0 := [q]) (fun x hx => by rw [List.mem_singleton.1 hx]; exact hqH)
  (I := fun k O H1 => ∃ v o,H1[q]? = some (.cells [v] true 0) ∧ OwnX H1 1 ((endsZ p heads w k).map ab) k v o ∧ o ≠ some q ∧ O = q :: o.toList)
  ⟨_,none,c3,⟨rfl,rfl,.inl ⟨rfl,rfl,rfl⟩⟩,by simp,rfl⟩ (fun k O H1 ⟨v,o,hq,ho,hne,e⟩ x hx => ?_) (fun k O H1 H2 X ⟨v,o,hq,ho,hne,e⟩ S hX => ?_) (fun k O H1 K1 ⟨v,o,hq,ho,hne,e⟩ hk hk1 => ?_) fun O H' ⟨v,o,hq,ho,hne,e⟩ S => ?_
 ·rw [e] at hx
  rcases List.mem_cons.1 hx with rfl | hx
  ·exact ah hq
  ·exact ownX_lt ho x (by simpa using hx)
 ·refine ⟨v,o,S.get hq (hX q (by rw [e]; simp)),dI ho S (fun i hi => hX i (by rw [e,hi]; simp)),hne,e⟩
 ·refine callCz (by kernel_rfl) (good39 hJ hq ho hne (by omega) fun H2 v' o' S' hq' ho' hne' hnew => hk1 (q :: o'.toList) H2 _ ⟨v',o',hq',by rw [endsZ_succ]; exact ho',hne',rfl⟩ (by rw [e]; exact S') fun x hx => ?_)
  rcases List.mem_cons.1 hx with rfl | hx
  ·exact .inl (by rw [e]; simp)
  ·exact .inr (hnew x (by simpa using hx))
 ·have kv := (ownX_val ho).2.2
  refine ldI (v := v) hq rfl kv (ao ?_ (hK1 h1 H' v ?_ (bS ho)))
  ·intro x hx
   simp only [List.mem_cons,List.not_mem_nil,or_false] at hx
   rcases hx with rfl | rfl
   ·exact ownU ho
   ·simp [unk]
  ·exact T3.bq S fun x hx => .inr (by rw [List.mem_singleton.1 hx]; exact hqH)
end
abbrev Span := Int × Int × Bool
def cD (x : Span) : List Value := [ab x.1,ab x.2.1,.bool x.2.2]
def widenR (x : Span) (n : Int) : Span := if x.2.2 = true then (min x.1 n,max x.2.1 n,true) else (n,n,true)
theorem wrAt_right {a : List Value} : ∀ (vs b : List Value) (o : Nat),dL (a ++ b) (a.length + o) vs = a ++ dL b o vs
 | [],b,o => rfl
 | v :: vs,b,o => by
  simp only [dL]
  rw [List.set_append_right _ _ (by omega),show a.length + o - a.length = o by omega,show a.length + o + 1 = a.length + (o + 1) by omega]
  exact wrAt_right vs (b.set o v) (o + 1)
theorem wrAt_span (y : Span) : ∀ (L : List Span) (j : Nat),j < L.length → dL (L.flatMap cD) (j * 3) (cD y) = (L.set j y).flatMap cD
 | [],j,h => absurd h (Nat.not_lt_zero _)
 | x :: L,0,_ => rfl
 | x :: L,j + 1,h => by
  have e : (j + 1) * 3 = (cD x).length + j * 3 := by
   show (j + 1) * 3 = 3 + j * 3
   omega
  rw [List.flatMap_cons,e,wrAt_right,wrAt_span y L j (by simpa using h),List.set_cons_succ,List.flatMap_cons]
section
variable {main : Bool} {J : JT} {h H : List af} {K : Value → List af → Prop} {KV : Value → Prop} {HL : List af → Prop} {n0 : Nat}
theorem good71 (hJ : Closed prog main J) {x : Span} {n : Int} (hK : ∀ H',ag [] H H' → K (.agg ⟨cD (widenR x n)⟩) H') : Good prog J 71 [.agg ⟨cD x⟩,ab n] H K := by
 refine g71 hJ fun ok => ?_
 rw [e71]
 refine dk (l := cD x) rfl fun H1 p1 e1 S1 c1 l1 => qAl fun H2 p2 e2 S2 c2 l2 => ?_
 have c12 := S2.get c1 (by simp)
 have T := S1.trans S2
 have fin : ∀ {F : RG} {y : Span} {H3 : List af},y = widenR x n → F.ds = [] → F.r 4 = ptr p2 0 → ag [p2] H2 H3 → H3[p2]? = some (.cells (cD y) true 0) → aq prog [.cell 4 90] H.length K .ret F H3 := fun hy ds r4 S3 c3 => by
  subst hy
  refine retQs ds (de (gg := true) (s := 3) (by kernel_rfl) ?_)
  show ai true 3 _ _ _
  rw [r4]
  refine ar (c := cD (widenR x n)) c3 (by simp [cD]) rfl rfl (dN ?_)
  exact hK _ (T.bq S3 (by simp; omega))
 refine aQ (ldI (v := .bool x.2.2) c12 rfl rfl (dU (cndB (fun hb => ?_) fun hb => ?_)))
 ·refine aK (l := [ab n]) rfl rfl rfl (by decide) (aK (l := [ab n]) rfl rfl rfl (by rw [aW]; decide) (aK (l := [.bool true]) rfl rfl rfl (by rw [aW,aW]; decide) (bu ?_)))
  refine da (c := cD (n,n,true)) c2 rfl rfl rfl fun H3 S3 c3 l3 => fin ?_ rfl rfl S3 c3
  unfold widenR
  rw [if_neg (by simpa using hb)]
 ·refine aQ (ldI (v := ab x.1) c12 rfl rfl (minI (aQ (ldI (v := ab x.2.1) c12 rfl rfl (maxI ?_)))))
  refine aK (l := [ab (min x.1 n)]) rfl rfl rfl (by decide) (aK (l := [ab (max x.2.1 n)]) rfl rfl rfl (by rw [aW]; decide) (aK (l := [.bool true]) rfl rfl rfl (by rw [aW,aW]; decide) (bu ?_)))
  refine da (c := cD (min x.1 n,max x.2.1 n,true)) c2 rfl rfl rfl fun H3 S3 c3 l3 => fin ?_ rfl rfl S3 c3
  unfold widenR
  rw [if_pos (by simpa using hb)]
theorem good70 (hJ : Closed prog main J) {q po j c sz : Nat} {n : Int} {a2 a3 : Value} {L : List Span} (hq : H[q]? = some (.cells [.slice (some ⟨po,0,none⟩) L.length c] true 0)) (hp : H[po]? = some (.cells (L.flatMap cD) true sz)) (hj : j < L.length)
  (hK : ∀ H',ag [po] H H' → H'[po]? = some (.cells ((L.set j (widenR L[j] n)).flatMap cD) true sz) → K (pack []) H') : Good prog J 70 [ab (j : Nat),ab n,a2,a3,ptr q 0] H K := by
 refine g70 hJ fun ok => ?_
 rw [e70]
 have lq := ah hq
 have lp := ah hp
 have hlen : (L.flatMap cD).length = L.length * 3 := by
  clear hq hp hj hK
  induction L with
  | nil => rfl
  | cons x L ih => rw [List.flatMap_cons,List.length_append,ih,List.length_cons]; show 3 + _ = _; omega
 have hoff : ∀ {KV : Value → Prop},KV (ptr po (j * 3)) → bT 3 (.slice (some ⟨po,0,none⟩) L.length c) (ab (j : Nat)) KV := fun hk => idxI ⟨by omega,by omega⟩ (by rw [Int.toNat_natCast,Nat.zero_add]; exact hk)
 refine ⟨[q,po],ldI (v := .slice (some ⟨po,0,none⟩) L.length c) hq rfl rfl ⟨by simp [aR,au],ldI (v := .slice (some ⟨po,0,none⟩) L.length c) hq rfl rfl ⟨by simp [aR,au],hoff (ar (c := cD L[j]) hp (by omega) (flat_take (enc := cD) (s := 3) (fun _ => rfl) L j hj) rfl ⟨by simp [aR,au],?_⟩)⟩⟩⟩
 refine good71 hJ fun H1 S1 => ⟨sbTwo S1 lq lp (by simp) (by simp),hoff ?_⟩
 have hp1 := S1.get hp (by simp)
 have lp1 := ah hp1
 have fin : aI H.length K [] [] (H1.set po (.cells ((L.set j (widenR L[j] n)).flatMap cD) true sz)) := ao (by simp) (hK _ (S1.bN.set (.inl (by simp))) (List.getElem?_set_self lp1))
 unfold aB
 simp only [hp1]
 refine ⟨rfl,rfl,by omega,?_⟩
 rw [show (Value.agg ⟨cD (widenR L[j] n)⟩).cells.toList = cD (widenR L[j] n) from rfl,wrAt_span _ _ _ hj]
 exact fin
end
def dayS (p : Pas) (hs : List Int) (w : List UInt8) : Nat → List Span → List Span
 | 0,L => L
 | j + 1,L => (dayS p hs w j L).set j (widenR ((dayS p hs w j L).getD j (0,0,false)) (stdR p hs w (j + 1)).1)
theorem dayS_len {p : Pas} {hs : List Int} {w : List UInt8} {L : List Span} : ∀ j,(dayS p hs w j L).length = L.length
 | 0 => rfl
 | j + 1 => by rw [dayS,List.length_set,dayS_len j]
def dS (p : Pas) (hs : List Int) (s : aU) : List Span := (df s).foldl (fun L w => dayS p hs w w.length L) (List.replicate s.days.toNat (0,0,false))
section
variable {main : Bool} {J : JT} {h H : List af} {K : Value → List af → Prop} {KV : Value → Prop} {HL : List af → Prop} {n0 : Nat}
noncomputable abbrev lpW (st : LoopState) (pend : Option Code) (r : Nat → Value) (d : Nat) : af := .loop st pend 41 r 21 #[14] (aw yp2 (codeOf f41)) (aw [1,1,0,1,0,1] (codeOf f41)) d
theorem roundW (hJ : Closed prog main J) {h0 : List af} {l d p3 p4 p7 po c sz : Nat} {R : Nat → Value} {p : Pas} {hs : List Int} {hv : Value} {w : List UInt8} {L : List Span} {Q : Value → List af → Prop} (f : cA p) (hh : headsOk hs) (hw : w.length ≤ hs.length) (hw2 : w.length ≤ 1000) (hL : L.length = w.length)
  (S0 : ag [] h0 (H.set l (lpW .busy none R d))) (sh : Sli h0 hv 1 hs.length (hs.map ab)) (hpo : h0.length ≤ po) (hp7 : h0.length ≤ p7) (hpl : h0.length ≤ l) (kv : kn1 hv = true)
  (hl : H[l]? = some (lpW .ready none R d)) (r3 : R 3 = ptr p3 0) (r4 : R 4 = ptr p4 0) (r7 : R 7 = ptr p7 0)
  (c3 : H[p3]? = some (.cells p.cells true 0)) (c4 : H[p4]? = some (.cells [hv] true 0)) (c7 : H[p7]? = some (.cells [.slice (some ⟨po,0,none⟩) L.length c] true 0)) (co : H[po]? = some (.cells (L.flatMap cD) true sz))
  (n3 : p3 ≠ l) (n4 : p4 ≠ l) (n7 : p7 ≠ l) (no : po ≠ l) (n : p7 ≠ po)
  (k : ∀ H',ag [l,po] H H' → H'[l]? = some (lpW .ready none R d) → H'[po]? = some (.cells ((dayS p hs w w.length L).flatMap cD) true sz) → Q (.bool true) H') :
  dC prog (Good prog J) (.func (.yield l) ⟨[]⟩ ⟨[]⟩) [ay w] H Q := by
 show Good prog J (yid prog l) [ay w] H Q
 refine good_round hJ hl rfl (by decide) fun ok => bH hJ mixed _ ?_
 rw [a41_1]
 refine ⟨rfl,none,_,_,_,_,_,_,_,hl,bH hJ mixed _ ?_⟩
 rw [b41_1]
 have hll := ah hl
 have hl3 : (H.set l (lpW .busy none R d))[l]? = some (lpW .busy none R d) := List.getElem?_set_self hll
 have S3 : ag [l] H (H.set l (lpW .busy none R d)) := ag.refl.set (.inl (by simp))
 generalize H.set l (lpW .busy none R d) = H3 at hl3 S3 S0
 show ai true 6 (R 3) _ _
 rw [r3]
 refine ar (c := p.cells) (S3.get c3 (by simpa using n3)) (by simp [Pas.cells]) rfl rfl ?_
 show ai false 1 (R 4) _ _
 rw [r4]
 refine ldI (v := hv) (S3.get c4 (by simpa using n4)) rfl kv ?_
 show aMkF _ [] [R 7] _
 rw [r7]
 refine ⟨rfl,?_⟩
 refine good38 hJ f hh S0 sh hw hw2 (O0 := [po,p7,l]) (fun x hx => ?_)
  (I := fun j O H1 => O = [po,p7,l] ∧ H1[p7]? = some (.cells [.slice (some ⟨po,0,none⟩) L.length c] true 0) ∧ H1[po]? = some (.cells ((dayS p hs w j L).flatMap cD) true sz) ∧ H1[l]? = some (lpW .busy none R d))
  ⟨rfl,S3.get c7 (by simpa using n7),S3.get co (by simpa using no),hl3⟩ ?_ ?_ ?_ ?_
 ·simp only [List.mem_cons,List.not_mem_nil,or_false] at hx
  rcases hx with rfl | rfl | rfl <;> assumption
 ·rintro j O H1 ⟨rfl,i1,i2,i3⟩ x hx
  simp only [List.mem_cons,List.not_mem_nil,or_false] at hx
  rcases hx with rfl | rfl | rfl
  ·exact ah i2
  ·exact ah i1
  ·exact ah i3
 ·rintro j O H1 H2 X ⟨rfl,i1,i2,i3⟩ S hX
  exact ⟨rfl,S.get i1 (hX _ (by simp)),S.get i2 (hX _ (by simp)),S.get i3 (hX _ (by simp))⟩
 ·rintro j O H1 K1 ⟨rfl,i1,i2,i3⟩ hj hk1
  have hlen := dayS_len (p := p) (hs := hs) (w := w) (L := L) j
  rw [← hlen] at i1
  refine callCz (by kernel_rfl) (good70 hJ i1 i2 (by omega) fun H2 S2 c2 => hk1 [po,p7,l] H2 _ ⟨rfl,?_,?_,S2.get i3 (by simp; exact fun e => no e.symm)⟩ (S2.weak (by simp)) (fun x hx => .inl hx))
  ·rw [← hlen]
   exact S2.get i1 (by simpa using n)
  ·rw [c2,dayS]
   have : (dayS p hs w j L).getD j (0,0,false) = (dayS p hs w j L)[j]'(by omega) := by
    rw [List.getD_eq_getElem?_getD,List.getElem?_eq_getElem (by omega)]
    rfl
   rw [this]
 ·rintro O H' ⟨rfl,i1,i2,i3⟩ S
  have hl' := ah i3
  have Sa : ag [l,po,p7] H H' := (S3.weak (by simp)).trans (S.weak (by simp))
  have Sb : ag [l,po] H H' := ⟨Sa.1,fun i hi hx => by
   by_cases e : i = p7
   ·rw [e,i1,c7]
   ·exact Sa.2 i hi (by simp at hx ⊢; exact ⟨hx.1,hx.2,e⟩)⟩
  exact ⟨.busy,none,_,_,_,_,_,_,_,i3,.inl (k _ (Sb.set (.inl (by simp))) (List.getElem?_set_self hl') (cI i2 no))⟩
theorem zrep_span (n : Nat) : aV [ab 0,ab 0,.bool false] n = (List.replicate n ((0,0,false) : Span)).flatMap cD := by
 induction n with
 | zero => rfl
 | succ n ih =>
  rw [List.replicate_succ,List.flatMap_cons,← ih]
  rfl
theorem spansK_len {p : Pas} {hs : List Int} {l : List (List UInt8)} : ∀ {L : List Span},(l.foldl (fun L w => dayS p hs w w.length L) L).length = L.length := by
 induction l with
 | nil => intro L; rfl
 | cons w l ih => intro L; rw [List.foldl_cons,ih,dayS_len]
theorem flat_len (L : List Span) : (L.flatMap cD).length = L.length * 3 := by
 induction L with
 | nil => rfl
 | cons x L ih => rw [List.flatMap_cons,List.length_append,ih,List.length_cons]; show 3 + _ = _; omega
theorem kn_span (L : List Span) : kn (L.flatMap cD) = true := by
 unfold kn
 rw [List.all_eq_true]
 intro v hv
 obtain ⟨x,_,hx⟩ := List.mem_flatMap.1 hv
 simp only [cD,List.mem_cons,List.not_mem_nil,or_false] at hx
 rcases hx with rfl | rfl | rfl <;> rfl
set_option maxHeartbeats 800000 in
theorem good41 (hJ : Closed prog main J) {p : Pas} {s : aU} {hs : List Int} {hv : Value} (f : cA p) (g : cL s) (hh : headsOk hs) (hlen : (hs.length : Int) = s.days) (sh : Sli H hv 1 hs.length (hs.map ab))
  (hK : ∀ H' v,ag [] H H' → Sli H' v 3 s.days.toNat ((dS p hs s).flatMap cD) → K v H') : Good prog J 41 [.agg ⟨p.cells⟩,hv,.agg ⟨s.cells⟩] H K := by
 refine g41 hJ fun ok => ?_
 rw [e41]
 have vh := sliValZ sh
 obtain ⟨g1,g2,g3⟩ := id g
 refine dk (l := p.cells) rfl fun H1 p3 e1 S1 c3 l1 => qBox1 vh.1 vh.2.1 fun H2 p4 e2 S2 c4 l2 => dk (l := s.cells) rfl fun H3 p5 e3 S3 c5 l3 => ?_
 have c33 := S3.get (S2.get c3 (by simp)) (by simp)
 have c43 := S3.get c4 (by simp)
 have T3 := (S1.trans S2).trans S3
 have hrm : (2000 : Nat) < room := by decide
 refine aQ (ldI (v := ab s.days) c5 rfl rfl ⟨⟨rfl,by decide⟩,by omega,by omega,by omega,?_⟩)
 generalize hH4 : H3 ++ [af.cells (aV [ab 0,ab 0,.bool false] s.days.toNat) true 0] = H4
 have co : H4[H3.length]? = some (.cells ((List.replicate s.days.toNat ((0,0,false) : Span)).flatMap cD) true 0) := by rw [← hH4,zrep_span]; simp
 have S4 : ag [] H3 H4 := by rw [← hH4]; exact ag.refl.app
 have l4 : H4.length = H3.length + 1 := by rw [← hH4]; simp
 generalize hpo : H3.length = po at co l4
 refine qAl fun H5 p7 e5 S5 c7 l5 => qSt c7 (by simp) rfl rfl fun H6 S6 c76 l6 => ?_
 have c76 : H6[p7]? = some (.cells [.slice (some ⟨po,0,none⟩) s.days.toNat s.days.toNat] true 0) := c76
 have S36 : ag [] H3 H6 := (S4.trans S5).bq S6 (by simp; omega)
 have co6 := S6.get (S5.get co (by simp)) (by simp; omega)
 have T6 : ag [] H H6 := T3.trans S36
 refine ar (c := s.cells) (S36.get c5 (by simp)) (by simp [aU.cells]) rfl rfl ?_
 refine good42 hJ fun H10 ps S10 cs10 gs => ?_
 have TH : ag [] H H10 := T6.trans S10
 refine l41_1 hJ (first := []) (cap := [ptr ps 0]) rfl (by decide) ?_
 obtain ⟨R,hRe⟩ : ∃ R : RG,R = ((((((((((RG.mk (ax [.agg ⟨p.cells⟩,hv,.agg ⟨s.cells⟩]) []).p 3 (ptr p3 0)).p 4 (ptr p4 0)).p 5 (ptr p5 0)).p 6 (.slice none 0 0)).p 9 (ptr p5 0)).p 10 (ab s.days)).p 11 (.slice (some ⟨po,0,none⟩) s.days.toNat s.days.toNat)).p 7 (ptr p7 0)).p 12 (.agg ⟨s.cells⟩)).p 13 (.func (.func 72) ⟨[]⟩ ⟨[ptr ps 0]⟩) := ⟨_,rfl⟩
 rw [show (ptr p5 (0 + 0)) = ptr p5 0 from rfl,← hRe]
 have R3 : R.r 3 = ptr p3 0 := by subst hRe; rfl
 have R4 : R.r 4 = ptr p4 0 := by subst hRe; rfl
 have R7 : R.r 7 = ptr p7 0 := by subst hRe; rfl
 have Rds : R.ds = [] := by subst hRe; rfl
 clear hRe
 have hl11 : (H10 ++ [af.deferred] ++ [lpW .ready none R.r H10.length])[H10.length + 1]? = some (lpW .ready none R.r H10.length) := by
  rw [List.append_assoc]
  simp
 have hd11 : (H10 ++ [af.deferred] ++ [lpW .ready none R.r H10.length])[H10.length]? = some .deferred := by
  rw [List.append_assoc]
  simp
 have hln : (H10 ++ [af.deferred] ++ [lpW .ready none R.r H10.length]).length = H10.length + 2 := by simp
 have S11 : ag [] H10 (H10 ++ [af.deferred] ++ [lpW .ready none R.r H10.length]) := ag.refl.app.app
 generalize hH11 : H10 ++ [af.deferred] ++ [lpW .ready none R.r H10.length] = H11 at hl11 hd11 hln S11
 have UH : ag [] H H11 := TH.trans S11
 have S6' := S10.trans S11
 have S3' := S36.trans S6'
 have w7 := S6'.get c76 (by simp)
 have wo := S6'.get co6 (by simp)
 have w3 := S3'.get c33 (by simp)
 have w4 := S3'.get c43 (by simp)
 have ws : H11[ps]? = some (.cells s.cells true 0) := S11.get cs10 (by simp)
 have b3 := ah c33
 have b4 := ah c43
 have b7 := ah c76
 have bs := ah cs10
 have h10 := S10.1
 have h36 := S36.1
 have hTH := TH.1
 have hUH := UH.1
 have hT3 := T3.1
 let acc : Nat → List Span := fun k => ((df s).take k).foldl (fun L w => dayS p hs w w.length L) (List.replicate s.days.toNat (0,0,false))
 have tk : ∀ (k : Nat) (w : List UInt8),(df s)[k]? = some w → acc (k + 1) = dayS p hs w w.length (acc k) := fun k w hw => by
  dsimp only [acc]
  rw [List.take_add_one,hw,List.foldl_append]
  rfl
 have al : ∀ k,(acc k).length = s.days.toNat := fun k => by
  dsimp only [acc]
  rw [spansK_len,List.length_replicate]
 have RD : Rnd J (df s) (.func (.yield (H10.length + 1)) ⟨[]⟩ ⟨[]⟩) [H10.length + 1,po] H11
   (fun k O H' => O = [] ∧ H'[H10.length + 1]? = some (lpW .ready none R.r H10.length) ∧ H'[po]? = some (.cells ((acc k).flatMap cD) true 0)) (fun H' => False) := by
  refine ⟨by simp; omega,fun h => by rw [h.1]; simp,fun T hi => ⟨hi.1,by rw [T.2 _ (.inl (by omega))]; exact hi.2.1,by rw [T.2 _ (.inl (by omega))]; exact hi.2.2⟩,?_⟩
  rintro k w O Ha Q hw Sa _ ⟨rfl,i1,i2⟩ q1 q2
  have hwl := rainsB_len (List.mem_of_getElem? hw)
  have ga : ∀ {q : Nat} {o : af},H11[q]? = some o → q ≠ H10.length + 1 → q ≠ po → Ha[q]? = some o := fun hq h1 h2 => Sa.get hq (by simp; exact ⟨h1,h2⟩)
  have Sx : ag [H10.length + 1,po] H11 (Ha.set (H10.length + 1) (lpW .busy none R.r H10.length)) := Sa.set (.inl (by simp))
  have Sy : ag [] H (Ha.set (H10.length + 1) (lpW .busy none R.r H10.length)) := UH.bq Sx (by simp; omega)
  have ak := al k
  refine roundW hJ f hh (by omega) (by omega) (L := acc k) (by omega) Sy sh (by omega) (by omega) (by omega) vh.2.2 i1 R3 R4 R7 (ga w3 (by omega) (by omega)) (ga w4 (by omega) (by omega)) (c := s.days.toNat) (by rw [ak]; exact ga w7 (by omega) (by omega)) i2 (by omega) (by omega) (by omega) (by omega) (by omega) fun Hb Sb hlb ho => ?_
  refine q1 [] Hb (Sb.weak (by simp)) (by simp) ⟨rfl,hlb,?_⟩
  rw [ho,tk k w hw]
 refine good72 hJ g RD ⟨rfl,rfl,rfl⟩ ws (by simp; omega) ⟨rfl,hl11,wo⟩ (fun Hb O Sb _ hi => ?_) fun Hb Sb st => st.elim
 obtain ⟨_,i1,i2⟩ := hi
 have hacc : acc (df s).length = dS p hs s := by
  dsimp only [acc]
  rw [List.take_of_length_le (Nat.le_refl _)]
  rfl
 have i7 := Sb.get w7 (by simp; omega)
 rw [hacc] at i2
 refine endQnorm i1 (by simp) ?_
 rw [c41_1]
 show ai false 1 (R.r 7) _ _
 rw [R7,Rds]
 have hd' := Sb.get hd11 (by simp; omega)
 refine ldI (v := .slice (some ⟨po,0,none⟩) s.days.toNat s.days.toNat) (cI i7 (by omega)) rfl rfl ?_
 refine retLdef (cI hd' (by omega)) (by simp [unk]) (hK ((Hb.set (H10.length + 1) .dead).set H10.length .dead) _ (((UH.bq Sb (by simp; omega)).set (.inr (by omega))).set (.inr (by omega))) ?_)
 have hsl : (dS p hs s).length = s.days.toNat := by rw [← hacc]; exact al _
 refine ⟨_,_,rfl,⟨by rw [flat_len,hsl],kn_span _⟩,.inr ⟨po,0,rfl,.inr ⟨_,_,_,cI (cI i2 (by omega)) (by omega),?_⟩⟩⟩
 rw [List.drop_zero]
 exact List.take_of_length_le (by rw [flat_len,hsl]; exact Nat.le_refl _)
def rngC (x : Span) : List Value := [ab x.1,ab x.2.1]
theorem good16 (hJ : Closed prog main J) {p : Pas} {s : aU} {hs : List Int} {hv : Value} (sh : Sli H hv 1 hs.length (hs.map ab)) (hl : hs.length < 1000000)
  (hK0 : ckdE p hs s ≠ 0 → ∀ H',ag [] H H' → K (.tuple ⟨[.slice none 0 0,ab (ckdE p hs s)]⟩) H')
  (hK1 : ckdE p hs s = 0 → ∀ H' v,ag [] H H' → Sli H' v 2 s.days.toNat ((dS p hs s).flatMap rngC) → K (.tuple ⟨[v,ab 0]⟩) H') : Good prog J 16 [.agg ⟨p.cells⟩,hv,.agg ⟨s.cells⟩] H K := by
 refine g16 hJ fun ok => ?_
 rw [e16]
 refine dk (l := p.cells) rfl fun H1 p3 e1 S1 c3 l1 => dk (l := s.cells) rfl fun H2 p5 e2 S2 c5 l2 => ?_
 have c32 := S2.get c3 (by simp)
 have T2 := S1.trans S2
 refine ar (c := p.cells) c32 (by simp [Pas.cells]) rfl rfl (ar (c := s.cells) c5 (by simp [aU.cells]) rfl rfl ?_)
 refine good40 hJ (T2.sli sh (by simp)) hl fun H3 S3 => neqI (ba (fun h1 => ao (nu2 (by simp [unk]) (by simp [unk])) (hK0 h1 H3 (T2.trans S3))) fun h1 => ?_)
 have h0 : ckdE p hs s = 0 := by omega
 obtain ⟨f,g,hh,hlen⟩ := ckdE_zero h0
 obtain ⟨g1,g2,g3⟩ := id g
 have T3 := T2.trans S3
 refine ar (c := p.cells) (S3.get c32 (by simp)) (by simp [Pas.cells]) rfl rfl (ar (c := s.cells) (S3.get c5 (by simp)) (by simp [aU.cells]) rfl rfl ?_)
 refine good41 hJ f g hh hlen (T3.sli sh (by simp)) fun H4 sv S4 hsv => lenI hsv ?_
 have T4 := T3.trans S4
 have h4 := T4.1
 have hsl : (dS p hs s).length = s.days.toNat := by
  unfold dS
  rw [spansK_len,List.length_replicate]
 have hsE : SliE H4 sv 3 cD (dS p hs s) := by
  show Sli H4 sv 3 (dS p hs s).length _
  rw [hsl]
  exact hsv
 have rl : ∀ l : List Span,(l.flatMap rngC).length = l.length * 2 := fun l => by
  induction l with
  | nil => rfl
  | cons x l ih => rw [List.flatMap_cons,List.length_append,ih,List.length_cons]; show 2 + _ = _; omega
 refine l16_1 hJ (fun k : Nat => s.days.toNat - k) (fun k F H' => k ≤ s.days.toNat ∧ ag [] H4 H' ∧ (∃ o,OwnX H' 2 (((dS p hs s).take k).flatMap rngC) k (F.r 9) o ∧ ∀ i,o = some i → H4.length ≤ i) ∧ F.ds = [] ∧ F.r 22 = sv ∧ F.r 23 = ab (s.days.toNat : Nat) ∧ F.r 24 = ab (k : Nat)) ?_ (s := 0)
  (.inl ⟨by omega,ag.refl,⟨none,⟨rfl,rfl,.inl ⟨rfl,rfl,rfl⟩⟩,fun i hi => by cases hi⟩,rfl,rfl,rfl,rfl⟩)
 rintro k F H' ⟨hk,S,⟨o,O,ho⟩,ds,r22,r23,r24⟩ okc hnc
 rw [s16_1,r22,r23,r24,ds]
 refine dh (ba (fun hlt => ?_) fun hge => ?_)
 rotate_left
 ·have : k = s.days.toNat := by omega
  subst this
  rw [List.take_of_length_le (by omega)] at O
  exact ao (nu2 (ownU O) (by simp [unk])) (hK1 h0 H' _ (T4.trans S) (bS O))
 have hkl : k < (dS p hs s).length := by omega
 obtain ⟨b,oo,cs,wr,sz,hidx,hb,hos,htk,hkn⟩ := sliE_elem (s := 3) (fun _ => rfl) (by decide) (S.sli hsE (by simp)) hkl
 have htake : (dS p hs s).take (k + 1) = (dS p hs s).take k ++ [(dS p hs s)[k]] := by
  rw [List.take_add_one,List.getElem?_eq_getElem hkl]
  rfl
 generalize (dS p hs s)[k] = x at htk htake
 refine hidx _ (ar (c := cD x) hb hos htk rfl (qAl fun H5 p5' e5 S5 c5' l5 => da (c := cD x) c5' rfl rfl rfl fun H6 S6 c6 l6 => ?_))
 have h4' := S.1
 refine aQ (ldI (v := ab x.1) c6 rfl rfl (aQ (ldI (v := ab x.2.1) c6 rfl rfl ?_)))
 refine aK (l := [ab x.1]) rfl rfl rfl (by decide) (aK (l := [ab x.2.1]) rfl rfl rfl (by rw [aW]; decide) (bu ?_))
 refine ⟨⟨by decide,by decide,rfl⟩,aK (l := rngC x) rfl rfl rfl (by decide) (bu (du fun H7 p7 e7 S7 c7 l7 => ?_))⟩
 have c7 : H7[p7]? = some (.cells (rngC x) true 0) := c7
 have T7 : ag [] H' H7 := (S5.bq S6 (by simp; omega)).trans S7
 have O7 := dI O T7 (by simp)
 refine ⟨⟨rfl,by decide,by decide,by decide⟩,ownX_more O7 (by decide) (by omega) (e := rngC x) ⟨_,_,rfl,⟨rfl,rfl⟩,.inr ⟨p7,0,rfl,.inr ⟨_,_,_,c7,rfl⟩⟩⟩ fun v' H8 p8 e8 O8 S8 => ?_⟩
 refine ck (by omega) ⟨k + 1,by dsimp only; omega,.inl ⟨by omega,(S.trans T7).bq S8 (fun y hy => .inr ?_),⟨some p8,?_,fun i hi => ?_⟩,ds,r22,r23,by show ab _ = ab _; congr 1⟩⟩
 ·cases o with
  | none => simp at hy
  | some i =>
   simp at hy
   rw [hy]
   exact ho i rfl
 ·rw [htake,List.flatMap_append,List.flatMap_singleton]
  exact O8
 ·cases hi
  have := T7.1
  omega
end
def mead : Pas := ⟨12,20,1,4,3,2⟩
def seas : aU := ⟨3,2,2⟩
def fives : List Int := [5,5,5]
theorem x_asks : askE mead fives [100,119,100] = 0 := by decide +kernel
theorem x_ends : endsZ mead fives [100,119,100] 3 = [8,7,2] := by decide +kernel
theorem x_ckd : ckdE mead fives seas = 0 := by decide +kernel
theorem x_spans : dS mead fives seas = [(8,11,true),(4,10,true),(0,6,true)] := by decide +kernel
theorem x_worst : wstV mead fives seas = ([100,100,119],2,0) := by decide +kernel
theorem x_heads : headN mead seas 0 3 = 4 ∧ headE mead seas 0 3 = 0 := by decide +kernel
theorem x_turn : foundR [mead,mead] seas 6 2 0 = some [0,0,1] := by decide +kernel
section
variable {main : Bool} {J : JT} {h H : List af} {K : Value → List af → Prop} {KV : Value → Prop} {HL : List af → Prop} {n0 : Nat}
theorem good15 (hJ : Closed prog main J) (hK : ∀ H',ag [] H H' → K (.agg ⟨mead.cells⟩) H') : Good prog J 15 [] H K := by
 refine g15 hJ fun ok => ?_
 rw [e15]
 refine qAl fun H1 p1 e1 S1 c1 l1 => ?_
 refine aK (l := [ab 12]) rfl rfl rfl (by decide) (aK (l := [ab 20]) rfl rfl rfl (by simp [aW]) (aK (l := [ab 1]) rfl rfl rfl (by simp [aW]) (aK (l := [ab 4]) rfl rfl rfl (by simp [aW]) (aK (l := [ab 3]) rfl rfl rfl (by simp [aW]) (aK (l := [ab 2]) rfl rfl rfl (by simp [aW]) (bu ?_))))))
 refine da (c := mead.cells) c1 rfl rfl rfl fun H2 S2 c2 l2 => retQs rfl (de (gg := true) (s := 6) (by kernel_rfl) ?_)
 exact ar (c := mead.cells) c2 (by simp [Pas.cells]) rfl rfl (dN (hK H2 (S1.bq S2 (by simp; omega))))
theorem good17 (hJ : Closed prog main J) (hK : ∀ H',ag [] H H' → K (.agg ⟨seas.cells⟩) H') : Good prog J 17 [] H K := by
 refine g17 hJ fun ok => ?_
 rw [e17]
 refine qAl fun H1 p1 e1 S1 c1 l1 => ?_
 refine aK (l := [ab 3]) rfl rfl rfl (by decide) (aK (l := [ab 2]) rfl rfl rfl (by simp [aW]) (aK (l := [ab 2]) rfl rfl rfl (by simp [aW]) (bu ?_)))
 refine da (c := seas.cells) c1 rfl rfl rfl fun H2 S2 c2 l2 => retQs rfl (de (gg := true) (s := 3) (by kernel_rfl) ?_)
 exact ar (c := seas.cells) c2 (by simp [aU.cells]) rfl rfl (dN (hK H2 (S1.bq S2 (by simp; omega))))
theorem teqR (x : Span) : teq prog 10000 58 (.agg ⟨rngC x⟩) (.agg ⟨rngC x⟩) = some true := by
 have : teq prog 10000 58 (.agg ⟨rngC x⟩) (.agg ⟨rngC x⟩) = mB (some (x.1 == x.1)) (mB (some (x.2.1 == x.2.1)) (some true)) := by kernel_rfl
 rw [this]
 simp [mB_some]
theorem neqR {x : Span} (hk : KV (.bool false)) : aj prog .neq 58 (.agg ⟨rngC x⟩) (.agg ⟨rngC x⟩) KV := by
 show aEq prog true 58 (.agg ⟨rngC x⟩) (.agg ⟨rngC x⟩) KV
 unfold aEq
 rw [teqR]
 exact ⟨by kernel_rfl,hk⟩
theorem good22 (hJ : Closed prog main J) {av bv : Value} {xs : List Span} (ha : SliE H av 2 rngC xs) (hb : SliE H bv 2 rngC xs) (hl : xs.length < 1000000) (hK : K (.bool true) H) : Good prog J 22 [av,bv] H K := by
 refine g22 hJ fun ok => ?_
 rw [e22,sliE_len ha,sliE_len hb]
 refine neqI (ba (fun h => absurd rfl h) fun _ => ?_)
 refine l22_1 hJ (fun k : Nat => xs.length - k) (fun k F H' => H' = H ∧ k ≤ xs.length ∧ F.ds = [] ∧ F.r 0 = av ∧ F.r 1 = bv ∧ F.r 5 = ab (k : Nat)) ?_ (s := 0)
  (.inl ⟨rfl,by omega,rfl,rfl,rfl,rfl⟩)
 rintro k F H' ⟨rfl,hk,ds,r0,r1,r5⟩ okc hnc
 rw [s22_1,r0,r1,r5,ds,sliE_len ha]
 refine dh (ba (fun hlt => ?_) fun hge => ao (by simp [unk]) hK)
 have hkl : k < xs.length := by omega
 obtain ⟨b,o,cs,wr,sz,hidx,hbb,hos,htk,hkn⟩ := sliE_elem (s := 2) (fun _ => rfl) (by decide) ha hkl
 obtain ⟨b',o',cs',wr',sz',hidx',hbb',hos',htk',hkn'⟩ := sliE_elem (s := 2) (fun _ => rfl) (by decide) hb hkl
 refine hidx _ (ar hbb hos htk hkn (hidx' _ (ar hbb' hos' htk' hkn' ?_)))
 exact neqR (aP.2 (ck (by omega) ⟨k + 1,by dsimp only; omega,.inl ⟨rfl,by omega,ds,r0,r1,by show ab _ = ab _; congr 1⟩⟩))
theorem eqlStr {KV : Value → Prop} (hk : KV (.bool true)) : aj prog .eql 9 (ay [100,100,119]) (Value.string { data := #[100,100,119] }) KV := by
 have e : aj prog .eql 9 (ay [100,100,119]) (Value.string { data := #[100,100,119] }) KV = KV (.bool true) := by kernel_rfl
 rw [e]
 exact hk
theorem fill3 {a b c : Int} {KL : List Value → Prop} (hk : KL [ab a,ab b,ab c]) : aH (aV [ab 0] 3) [(0,1,ab a),(1,1,ab b),(2,1,ab c)] KL :=
 aK (l := [ab a]) rfl rfl rfl (by decide) (aK (l := [ab b]) rfl rfl rfl (by rw [aW]; decide) (aK (l := [ab c]) rfl rfl rfl (by rw [aW,aW]; decide) (bu hk)))
theorem sli3 {p : Nat} {a b c : Int} (hc : H[p]? = some (.cells [ab a,ab b,ab c] true 0)) : Sli H (.slice (some ⟨p,0,none⟩) 3 3) 1 ([a,b,c] : List Int).length (([a,b,c] : List Int).map ab) := bS (dv (s := 1) (n := 3) hc rfl rfl)
theorem good5 {W0 : World} {Post : Value → World → Prop} (hK : ∀ H',ag [] (dM H) H' → K (.bool true) H') : Good prog (J2 prog W0 Post) 5 [] H K := by
 have hJ := J2.closed prog W0 Post
 refine g5 hJ fun ok => ?_
 rw [e5]
 refine good15 hJ fun H1 S1 => ⟨⟨by decide,by decide,rfl⟩,fill3 (du fun H2 p2 e2 S2 c2 l2 => ?_)⟩
 refine good14 hJ (p := mead) (heads := fives) (w := [100,119,100]) (sli3 c2) (by decide) (by decide) (fun h => absurd x_asks h) fun _ H3 v3 S3 s3 => ext0 (ext1 ?_)
 rw [show ([100,119,100] : List UInt8).length = 3 from rfl,x_ends] at s3
 refine good15 hJ fun H4 S4 => ⟨⟨by decide,by decide,rfl⟩,fill3 (du fun H5 p5 e5 S5 c5 l5 => good17 hJ fun H6 S6 => ?_)⟩
 refine good16 hJ (p := mead) (s := seas) (hs := fives) (S6.sli (sli3 c5) (by simp)) (by decide) (fun h => absurd x_ckd h) fun _ H7 v7 S7 s7 => ext0 (ext1 ?_)
 rw [x_spans] at s7
 refine good15 hJ fun H8 S8 => ⟨⟨by decide,by decide,rfl⟩,fill3 (du fun H9 p9 e9 S9 c9 l9 => good17 hJ fun H10 S10 => ?_)⟩
 refine good18 hJ (p := mead) (s := seas) (hs := fives) (S10.sli (sli3 c9) (by simp)) (by decide) fun H11 S11 => ?_
 rw [x_worst]
 refine ext30 (ext31 (ext32 ?_))
 refine good15 hJ fun H12 S12 => good17 hJ fun H13 S13 => good19 hJ (p := mead) (s := seas) (fr := 0) (dy := 3) fun H14 S14 => ?_
 rw [x_heads.1,x_heads.2]
 refine ext0 (ext1 (good15 hJ fun H15 S15 => good15 hJ fun H16 S16 => ⟨⟨by decide,by decide,rfl⟩,?_⟩))
 refine aK (l := mead.cells) rfl rfl rfl (by decide) (aK (l := mead.cells) rfl rfl rfl (by rw [aW]; decide) (bu (du fun H17 p17 e17 S17 c17 l17 => good17 hJ fun H18 S18 => ?_)))
 have c17 : H17[p17]? = some (.cells ([mead,mead].flatMap Pas.cells) true 0) := c17
 have hl : SliE H18 (.slice (some ⟨p17,0,none⟩) 2 2) 6 Pas.cells [mead,mead] := S18.sli (bS (dv (s := 6) (n := 2) c17 rfl rfl)) (by simp)
 refine good20 (q := mead) (s := seas) (heads := 6) (by decide) (by decide) (by decide) 2 rfl hl ?_
 rw [x_turn]
 intro H19 v19 S19 s19
 have T318 : ag [] H3 H18 := (((((((((((((S4.trans S5).trans S6).trans S7).trans S8).trans S9).trans S10).trans S11).trans S12).trans S13).trans S14).trans S15).trans S16).trans S17).trans S18
 have T718 : ag [] H7 H18 := (((((((((S8.trans S9).trans S10).trans S11).trans S12).trans S13).trans S14).trans S15).trans S16).trans S17).trans S18
 have T18 : ag [] H H18 := ((S1.trans S2).trans S3).trans T318
 have TU : ag [] (dM H) H19 := by
  refine ag.trans ⟨by rw [bW,bW]; exact T18.1,fun i hi _ => ?_⟩ S19
  rw [bW] at hi
  unfold dM
  rw [List.getElem?_map,List.getElem?_map,T18.2 i hi (by simp)]
 have s3' := S19.sli (unch_sli (T318.sli s3 (by simp))) (by simp)
 have s7' := S19.sli (unch_sli (T718.sli s7 (by simp))) (by simp)
 refine ext0 (ext1 ?_)
 refine eqlI (ba (fun _ => ?_) fun h => absurd rfl h)
 refine eqlI (ba (fun _ => ?_) fun h => absurd rfl h)
 refine eqlI (ba (fun _ => ?_) fun h => absurd rfl h)
 refine eqlI (ba (fun _ => ?_) fun h => absurd rfl h)
 refine eqlI (ba (fun _ => ?_) fun h => absurd rfl h)
 refine eqlStr (bm.2 ?_)
 refine eqlI (ba (fun _ => ?_) fun h => absurd rfl h)
 refine eqlI (ba (fun _ => ?_) fun h => absurd rfl h)
 refine ⟨⟨by decide,by decide,rfl⟩,fill3 (du fun H20 p20 e20 S20 c20 l20 => ?_)⟩
 refine good21 hJ (xs := [8,7,2]) (ys := [8,7,2]) (S20.sli s3' (by simp)) (sli3 c20) (by decide) (ba (fun _ => ?_) fun h => absurd rfl h)
 refine aK (l := [ab 8]) rfl rfl rfl (by decide) (aK (l := [ab 11]) rfl rfl rfl (by decide) (bu ?_))
 refine aK (l := [ab 4]) rfl rfl rfl (by decide) (aK (l := [ab 10]) rfl rfl rfl (by decide) (bu ?_))
 refine aK (l := [ab 6]) rfl rfl rfl (by decide) (bu ?_)
 refine ⟨⟨by decide,by decide,rfl⟩,aK (l := [ab 8,ab 11]) rfl rfl rfl (by decide) (aK (l := [ab 4,ab 10]) rfl rfl rfl (by rw [aW]; decide) (aK (l := [ab 0,ab 6]) rfl rfl rfl (by rw [aW,aW]; decide) (bu (du fun H21 p21 e21 S21 c21 l21 => ?_))))⟩
 have c21 : H21[p21]? = some (.cells (([(8,11,true),(4,10,true),(0,6,true)] : List Span).flatMap rngC) true 0) := c21
 have T21 := S20.trans S21
 refine good22 hJ (xs := [(8,11,true),(4,10,true),(0,6,true)]) (T21.sli s7' (by simp)) (bS (dv (s := 2) (n := 3) c21 rfl rfl)) (by decide) (bm.2 ?_)
 refine ⟨⟨by decide,by decide,rfl⟩,fill3 (du fun H22 p22 e22 S22 c22 l22 => ?_)⟩
 refine good21 hJ (xs := [0,0,1]) (ys := [0,0,1]) ((T21.trans S22).sli s19 (by simp)) (sli3 c22) (by decide) (ao (by simp [unk]) ?_)
 have := hK H22 (TU.trans (T21.trans S22))
 simpa [pack] using this
end
end Go.Proofs.YtlhanfcgdfjhjaaGreatDoor
