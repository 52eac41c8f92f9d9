/- Law: TalkTells. -/
import Derived.Test.YtcdhlofhhcgohaaGreatwdRfc
import Derived.Test.YtcdhlofhhcgohaaGreatwdTrw
namespace Go.Proofs.YtcdhlofhhcgohaaGreat
open Go.RowKit
theorem zqq : net0.good:=⟨by decide,by decide,fun _ h=>(by cases h),List.Pairwise.nil,fun _ h=>(by cases h),List.Pairwise.nil⟩
theorem zqr (n:Net):goodT n []:=⟨by decide,fun _ h=>by cases h⟩
theorem zmj (a b:Int):eqL [V.int .i64 a,V.int .i64 b] [V.int .i64 a,V.int .i64 b]=some true:=by simp[eqL,V.eq1]
attribute [local irreducible] SStep DW DWin DOps zaG zaE zaJ retQ zaN FnF FnG FnI Wk IntKind.wrap IntKind.andI IntKind.orI IntKind.xorI IntKind.andNotI IntKind.shlI IntKind.shrI Net.wrong za3 zah zdS onA zbN zdh
set_option maxHeartbeats 4000000 in
theorem zr4 (n:Net) (ht:n.typed) (h0:n.wrong.1=0) (l:List Doing):FnG Tryz.prog 21 (zbM [true,true,false] [n.v,zaO [],.slice (l.map Doing.cells)]) [] (.dat true (onV (none,(8,0)))) []:=by
 refine zbj Tryz.func21 rfl rfl rfl ?_
 simp only[zbM,envD,zaO]
 have hwr:=zb4 n ht.wy
 rw[Net.wrong_zero h0]at hwr
 have hri:=ziB n
 repeat' (first|refine qU ?_|refine qW ?_|((first|apply dX rfl|apply Da rfl rfl|apply Db rfl rfl qN);(focus ((try intro hg);first|exact zac hwr rfl|exact zac hri rfl|exact zaq rfl rfl (zet 8 0)|exact qMo));constructor)|refine qP ?_)
 refine gDat (.cellA inferInstance rfl rfl rfl rfl qF (.cellA inferInstance rfl rfl rfl rfl qF (.cellA inferInstance rfl rfl rfl rfl qF .nil))) zav ?_
 rfl
theorem zmk (n:Net) (ht:n.typed) (trees:Int) (l more:List Doing):∃ (b:List (List Mind)) (k:Net),k.good∧goodT k b ∧
  (zdS n trees l).1.getD (net0,[])=(((zdS n trees l).1.getD (net0,[])).1,b)∧(((zdS n trees l).1.getD (net0,[])).1).bridges.length≤12∧(((zdS n trees l).1.getD (net0,[])).1).links.length≤40 ∧
  (∀ x∈(((zdS n trees l).1.getD (net0,[])).1).bridges,x.region.ways.length≤9223372036854775807) ∧
  ∃ (m:Net) (u:List (List Mind)) (f:Int×Nat),m.bridges.length≤12∧m.links.length≤40∧(∀ x∈m.bridges,x.region.ways.length≤9223372036854775807)∧u.length≤4∧(∀ l∈u,l.length≤12) ∧
   FnF Tryz.prog 20 [n.v,zaO b,.slice (more.map Doing.cells)] (.tuple [m.v,zaO u,zb1 f]) ∧
   FnG Tryz.prog 21 (zbM [true,true,false] [n.v,zaO b,.slice (more.map Doing.cells)]) [] (.dat true (.tuple [m.v,zaO u,zb1 f])) []:=by
 have hbad:∀ (b:List (List Mind)) f,FnF Tryz.prog 20 [n.v,zaO b,.slice (more.map Doing.cells)] (onV (none,f))→FnG Tryz.prog 21 (zbM [true,true,false] [n.v,zaO b,.slice (more.map Doing.cells)]) [] (.dat true (onV (none,f))) [] →
   ∃ (m:Net) (u:List (List Mind)) (f:Int×Nat),m.bridges.length≤12∧m.links.length≤40∧(∀ x∈m.bridges,x.region.ways.length≤9223372036854775807)∧u.length≤4∧(∀ l∈u,l.length≤12) ∧
   FnF Tryz.prog 20 [n.v,zaO b,.slice (more.map Doing.cells)] (.tuple [m.v,zaO u,zb1 f]) ∧
   FnG Tryz.prog 21 (zbM [true,true,false] [n.v,zaO b,.slice (more.map Doing.cells)]) [] (.dat true (.tuple [m.v,zaO u,zb1 f])) []:=fun b f h1 h2 =>
  ⟨⟨[],[]⟩,[],f,Nat.zero_le _,Nat.zero_le _,fun _ h=>(by cases h),Nat.zero_le _,fun _ h=>(by cases h),h1,h2⟩
 rcases zhx ht trees l with⟨f,hf,_⟩|⟨hg,h0,h1,h2,hl,⟨m,t⟩,hon,hpl⟩
 ·rw [hf]
  refine⟨[],net0,zqq,zqr _,rfl,Nat.zero_le _,Nat.zero_le _,fun _ h=>(by cases h),?_⟩
  by_cases h0:n.wrong.1=0
  ·exact hbad [] _ (zm0 n ht h0 more) (zr4 n ht h0 more)
  ·have e1:=zhv n ht [] (fun h=>absurd h h0) more
   have e2:=zmg n ht [] (fun h=>absurd h h0) more
   have:onA n [] more=(none,n.wrong):=by
    with_unfolding_all exact if_pos h0
   rw[this]at e1 e2
   exact hbad [] _ e1 e2
 ·rw [hpl]
  obtain⟨mg,mt,m0,mk,mgt,mtl⟩:=zm1 ht hpl hg h0 h1 h2 hon
  have gt:goodT n t:=zcb mk.symm mgt
  refine⟨t,n,hg,gt,rfl,mg.nb,mg.nl,mt.wy,?_⟩
  have e1:=zhv n ht t (fun _=>⟨gt,by omega⟩) more
  have e2:=zmg n ht t (fun _=>⟨gt,by omega⟩) more
  have key:=zc4 more 0 n t hg gt
  by_cases h30:30<more.length
  ·have:onA n t more=(none,(5,0)):=by
    with_unfolding_all exact(if_neg (by omega)).trans (if_pos h30)
   rw[this]at e1 e2
   exact hbad t _ e1 e2
  ·rw[←zrU (l:=more) h0 (by omega)]at key
   generalize onA n t more=r at e1 e2 key
   obtain⟨o,f⟩:=r
   cases o with
   | none=>exact hbad t _ e1 e2
   | some p =>
    obtain⟨k1,k2,k3,k4,_⟩:=key p rfl
    exact⟨p.1,p.2,f,k1.nb,k1.nl,(zhy ht k3).wy,k2.l,fun x hx=>by rw[(k2.m x hx).1];exact k1.nb,e1,e2⟩
theorem ztu (r:Option (Net×List (List Mind))×(Int×Nat)):onV r = .tuple [(r.1.getD (net0,[])).1.v,zaO (r.1.getD (net0,[])).2,zb1 r.2]:=by
 obtain⟨o,f⟩:=r
 cases o<;>rfl
theorem zn7 (n:Net) (ht:n.typed) (trees:Int):(zbN n trees).1.length≤4∧∀ l∈(zbN n trees).1,l.length≤12:=by
 rcases zdl n trees with⟨_,h⟩|⟨h0,h1,h2,he⟩
 ·rw[h];exact⟨by decide,fun _ h=>by cases h⟩
 ·rw[he]
  have hg:=((Net.wrong_iff ht).1 h0).1
  have:=zc3 (n:=n) (trees:=trees.toNat) (by omega)
  exact⟨this.l,fun x hx=>by rw[(this.m x hx).1];exact hg.nb⟩
set_option maxHeartbeats 8000000 in
theorem zjL (n:Net) (ht:n.typed) (trees:Int) (l more:List Doing) (tree bridge port:Int):FnF Tryz.prog 3 [n.v,.int .i64 trees,.slice (l.map Doing.cells),.slice (more.map Doing.cells),.int .i64 tree,.int .i64 bridge,.int .i64 port] (.bool true):=by
 refine zal Tryz.func3 rfl rfl rfl ?_
 simp only[zap]
 have hs:=ziy n ht trees
 have hr:=ziA n ht trees
 obtain⟨s1,s2⟩:=zn7 n ht trees
 have hss:=zhC _ s1 s2
 have hp:=zp7 n ht trees l
 have hq:=zlb n ht trees l
 rw[ztu]at hp hq
 obtain⟨b,k,kg,kt,e0,b1,b2,b3,m,u,f2,m1,m2,m3,u1,u2,ho,hd⟩:=zmk n ht trees l more
 rw[e0]at hp hq
 simp only at hp hq
 have hsn:=zf5 _ b1 b2 b3
 have hsb:=zhC b kt.l (fun x hx=>by rw[(kt.m x hx).1];exact kg.nb)
 have ho1:=zir k kg b kt tree bridge port
 have ho2:=ziC k kg b kt tree bridge port
 have hsm:=zf5 m m1 m2 m3
 have hsu:=zhC u u1 u2
 generalize zdh b tree bridge port=q at ho1 ho2
 generalize ((zdS n trees l).1.getD (net0,[])).1=o at hp hq hsn
 generalize (zdS n trees l).2=f1 at hp hq
 generalize (zbN n trees).1=t0 at hs hr hss
 generalize (zbN n trees).2=f0 at hs hr
 clear e0 b1 b2 b3 m1 m2 m3 u1 u2 s1 s2 kg kt
 obtain⟨a0,i0⟩:=f0
 obtain⟨a1,i1⟩:=f1
 obtain⟨a2,i2⟩:=f2
 have q0:=zmj a0 i0
 have q1:=zmj a1 i1
 have q2:=zmj a2 i2
 cases q
 ·repeat' (first|refine qU ?_|refine qW ?_|((first|apply dX rfl|apply Da rfl rfl|apply Db rfl rfl qN);(focus ((try intro hg);first|exact zac hs rfl|exact zac hr rfl|exact zac hss rfl|exact zac hp rfl|exact zac hsn rfl|exact zac hsb rfl|exact zac ho1 rfl|exact zac ho2 rfl|exact zac hsm rfl|exact zac hsu rfl|exact zac ho rfl|exact zeb [true,false,false] hq (fun m' hag=>⟨(zbx hag).trans rfl,⟨⟨_,rfl⟩,trivial⟩⟩)|exact zeb [true,true,false] hd (fun m' hag=>⟨(zbx hag).trans rfl,⟨⟨_,rfl⟩,⟨_,rfl⟩,trivial⟩⟩)|exact zab (zdU rfl rfl rfl rfl q0) rfl|exact zab (zdU rfl rfl rfl rfl q1) rfl|exact zab (zdU rfl rfl rfl rfl q2) rfl|exact ze6 rfl rfl rfl rfl q2|exact qMo));constructor)|refine qP ?_)
  refine ret1 rfl qF ?_
  rfl
 ·repeat' (first|refine qU ?_|refine qW ?_|((first|apply dX rfl|apply Da rfl rfl|apply Db rfl rfl qN);(focus ((try intro hg);first|exact zac hs rfl|exact zac hr rfl|exact zac hss rfl|exact zac hp rfl|exact zac hsn rfl|exact zac hsb rfl|exact zac ho1 rfl|exact zac ho2 rfl|exact zac hsm rfl|exact zac hsu rfl|exact zac ho rfl|exact zeb [true,false,false] hq (fun m' hag=>⟨(zbx hag).trans rfl,⟨⟨_,rfl⟩,trivial⟩⟩)|exact zeb [true,true,false] hd (fun m' hag=>⟨(zbx hag).trans rfl,⟨⟨_,rfl⟩,⟨_,rfl⟩,trivial⟩⟩)|exact zab (zdU rfl rfl rfl rfl q0) rfl|exact zab (zdU rfl rfl rfl rfl q1) rfl|exact zab (zdU rfl rfl rfl rfl q2) rfl|exact ze6 rfl rfl rfl rfl q2|exact qMo));constructor)|refine qP ?_)
  refine ret1 rfl qF ?_
  rfl
end Go.Proofs.YtcdhlofhhcgohaaGreat
