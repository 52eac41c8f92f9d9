/- Contracts: slices.Clone of bridges, links, ways, minds, numbers. -/
import Derived.Test.YtcdhlofhhcgohaaGreatwdTld
import Derived.Test.YtcdhlofhhcgohaaGreatwbOwn
import Derived.Test.YtcdhlofhhcgohaaGreatwcTlo
namespace Go.Proofs.YtcdhlofhhcgohaaGreat
open Go.RowKit
def memQ (nb v:Nat) (ls:List Link) (CS:List D) (B:Box) (T:Mem):Mem:=memD nb v ls CS ((960,B)::T)
def netQ (KT:List Nat):List Nat:=3::941::950::960::KT
structure FrmT (CS:List D) (B:Box) (T:Mem) (KT:List Nat):Prop where
 out:∀ g,g∉KT→T.at g = .gone
 row:∀ g,T.at g = .gone∨∃ ver sz xs,T.at g = .row ver false true sz xs
 cs:∀ d∈CS,∀ g,refD d=some g→g=960∨g∈KT
 b:B = .gone∨∃ ver sz xs,B = .row ver false true sz xs
theorem zhs {nb v:Nat} {ls:List Link} {CS:List D} {B:Box} {T:Mem} (g:Nat):Mem.at (memQ nb v ls CS B T) g=if 3=g then .cells false true [.sl 950 nb,.own 941 v 0 ls.length]else if 941=g then .row v false true 6 (ls.map zar)else if 950=g then .cells false true CS else if 960=g then B else T.at g:=by
 unfold memQ memD
 show look Box.gone _ g=_
 rw[zai,zai,zai,zai];rfl
section
variable {nb v : Nat} {ls : List Link} {CS : List D} {B : Box} {T : Mem} {KT : List Nat} (h : FrmT CS B T KT)
include h
theorem zgw (g:Nat) (hg:g∉netQ KT):Mem.at (memQ nb v ls CS B T) g = .gone:=by
 unfold netQ at hg
 simp only[List.mem_cons,not_or]at hg
 rw[zhs,if_neg (fun e=>hg.1 e.symm),if_neg (fun e=>hg.2.1 e.symm),if_neg (fun e=>hg.2.2.1 e.symm),if_neg (fun e=>hg.2.2.2.1 e.symm)]
 exact h.out g hg.2.2.2.2
theorem zjx (g:Nat) (frz nw:Bool) (cs:List D) (hg:Mem.at (memQ nb v ls CS B T) g = .cells frz nw cs):∀ d∈cs,inKD (netQ KT) d:=by
 rw[zhs]at hg
 split at hg
 ·injection hg with _ _ hg
  subst hg
  intro d hd g hr
  rcases List.mem_cons.1 hd with rfl|hd
  ·injection hr with hr;subst hr;rfl
  ·rcases List.mem_cons.1 hd with rfl|hd
   ·injection hr with hr;subst hr;rfl
   ·cases hd
 ·split at hg
  ·cases hg
  ·split at hg
   ·injection hg with _ _ hg
    subst hg
    intro d hd g hr
    refine zee.2 ?_
    unfold netQ
    rcases h.cs d hd g hr with rfl|hk
    ·simp
    ·simp[hk]
   ·split at hg
    ·rcases h.b with e|⟨_,_,_,e⟩<;>rw[e]at hg<;>cases hg
    ·rcases h.row g with e|⟨_,_,_,e⟩<;>rw[e]at hg<;>cases hg
theorem zgx (g:Nat) (hg:Mem.at (memQ nb v ls CS B T) g ≠ .gone):(Mem.at (memQ nb v ls CS B T) g).mut=true:=by
 rw[zhs]at hg ⊢
 split
 ·rfl
 ·split
  ·rfl
  ·split
   ·rfl
   ·rename_i h1 h2 h3
    rw[if_neg h1,if_neg h2,if_neg h3]at hg
    split
    ·rename_i h4
     rw[if_pos h4]at hg
     rcases h.b with e|⟨_,_,_,e⟩
     ·exact absurd e hg
     ·rw[e];rfl
    ·rename_i h4
     rw[if_neg h4]at hg
     rcases h.row g with e|⟨_,_,_,e⟩
     ·exact absurd e hg
     ·rw[e];rfl
end
attribute [local irreducible] SStep DW DWS DWin DOps zaG zaE zaJ zd2 endK endM retQ zaN FnF FnG FnI FnM Wk IntKind.wrap IntKind.andI IntKind.orI IntKind.xorI IntKind.andNotI IntKind.shlI IntKind.shrI
section
variable (nb v : Nat) (ls : List Link) (CS : List D) (T : Mem)
set_option maxHeartbeats 4000000 in
theorem znS (d:Doing) (hn:d.n<0∨(nb:Int)≤d.n):FnM Tryz.prog 104 [.ptr 3 0,.dat false (.rp d.cells)] (memD nb v ls CS T) (.dat true (.int .i64 6)) (memD nb v ls CS T):=by
 refine zez Tryz.func104 rfl rfl rfl ?_
 obtain⟨kind,dn,tree,value⟩:=d
 simp only at hn
 simp only[envD,memD,Doing.cells]
 by_cases h0:dn<0
 ·repeat' (first|refine qV ?_|refine qX ?_|((first|apply dX rfl|apply Da rfl rfl|apply Db rfl rfl qN);(focus ((try intro hg);first|exact zbQ rfl|exact qMo));constructor)|refine qP ?_)
  refine zbJ (.tmp rfl qF .nil) rfl ?_
  exact fun _=>rfl
 ·repeat' (first|refine qV ?_|refine qX ?_|((first|apply dX rfl|apply Da rfl rfl|apply Db rfl rfl qN);(focus ((try intro hg);first|exact zbQ rfl|exact qMo));constructor)|refine qP ?_)
  refine zbJ (.tmp rfl qF .nil) rfl ?_
  exact fun _=>rfl
set_option maxHeartbeats 4000000 in
theorem zpL (d:Doing) (hn:0≤d.n∧d.n<(nb:Int)) (hv:d.tree<0∨15<d.tree∨d.value<0∨61440<d.value∨d.value.tmod 4096≠0):FnM Tryz.prog 104 [.ptr 3 0,.dat false (.rp d.cells)] (memD nb v ls CS T) (.dat true (.int .i64 3)) (memD nb v ls CS T):=by
 refine zez Tryz.func104 rfl rfl rfl ?_
 obtain⟨kind,dn,tree,value⟩:=d
 simp only at hn hv
 simp only[envD,memD,Doing.cells]
 by_cases h0:tree<0
 ·repeat' (first|refine qV ?_|refine qX ?_|((first|apply dX rfl|apply Da rfl rfl|apply Db rfl rfl qN);(focus ((try intro hg);first|exact zbQ rfl|exact qMo));constructor)|refine qP ?_)
  refine zbJ (.tmp rfl qF .nil) rfl ?_
  exact fun _=>rfl
 by_cases h1:15<tree
 ·repeat' (first|refine qV ?_|refine qX ?_|((first|apply dX rfl|apply Da rfl rfl|apply Db rfl rfl qN);(focus ((try intro hg);first|exact zbQ rfl|exact qMo));constructor)|refine qP ?_)
  refine zbJ (.tmp rfl qF .nil) rfl ?_
  exact fun _=>rfl
 by_cases h2:value<0
 ·repeat' (first|refine qV ?_|refine qX ?_|((first|apply dX rfl|apply Da rfl rfl|apply Db rfl rfl qN);(focus ((try intro hg);first|exact zbQ rfl|exact qMo));constructor)|refine qP ?_)
  refine zbJ (.tmp rfl qF .nil) rfl ?_
  exact fun _=>rfl
 by_cases h3:61440<value
 ·repeat' (first|refine qV ?_|refine qX ?_|((first|apply dX rfl|apply Da rfl rfl|apply Db rfl rfl qN);(focus ((try intro hg);first|exact zbQ rfl|exact qMo));constructor)|refine qP ?_)
  refine zbJ (.tmp rfl qF .nil) rfl ?_
  exact fun _=>rfl
 ·have h4:value.tmod 4096≠0:=by omega
  repeat' (first|refine qV ?_|refine qX ?_|((first|apply dX rfl|apply Da rfl rfl|apply Db rfl rfl qN);(focus ((try intro hg);first|exact zbQ rfl|exact qMo));constructor)|refine qP ?_)
  refine zbJ (.tmp rfl qF .nil) rfl ?_
  exact fun _=>rfl
end
theorem ztg {x x' y y':Box} {M:Mem} (g:Nat):Mem.at ((950,x)::(960,y)::(960,y')::(950,x')::M) g=Mem.at ((960,y)::(950,x)::M) g:=by
 show look Box.gone _ g=look Box.gone _ g
 rw[zai,zai,zai,zai,zai,zai]
 by_cases h1:950=g
 ·rw[if_pos h1,if_neg (by omega),if_pos h1]
 ·rw[if_neg h1,if_neg h1,if_neg h1]
  by_cases h2:960=g
  ·rw[if_pos h2,if_pos h2]
  ·rw[if_neg h2,if_neg h2,if_neg h2]
theorem zth {x y:Box} {b3 b941:Box} {T:Mem} (g:Nat):Mem.at ((3,b3)::(941,b941)::(950,x)::(960,y)::T) g=Mem.at ((960,y)::(950,x)::(3,b3)::(941,b941)::(950,x)::(960,y)::T) g:=by
 show look Box.gone _ g=look Box.gone _ g
 rw[zai,zai,zai,zai,zai,zai,zai,zai,zai,zai]
 by_cases h1:960=g
 ·rw[if_pos h1,if_pos h1,if_neg (by omega),if_neg (by omega),if_neg (by omega)]
 ·simp only[if_neg h1]
  by_cases h2:950=g
  ·simp only[if_pos h2]
   rw[if_neg (by omega),if_neg (by omega)]
  ·simp only[if_neg h2]
theorem zt4 {y y' x:Box} {M:Mem} (g:Nat):Mem.at ((960,y)::(960,y')::(950,x)::M) g=Mem.at ((960,y)::(950,x)::M) g:=ztN g
def padI (ps:List Int) (k:Nat):List Int:=ps++List.replicate k 32768
theorem zrB (ps:List Int) (k:Nat):(padI ps k).length=ps.length+k:=by unfold padI;simp
theorem zpM (ps:List Int) (k:Nat):padI ps k++[32768]=padI ps (k+1):=by unfold padI;rw[List.append_assoc,List.replicate_succ']
section
variable (nb v : Nat) (ls : List Link) (CS : List D) (T : Mem)
set_option maxHeartbeats 4000000 in
theorem zpN (d:Doing) (A:Nat) (hA:d.n=A) (hn:A<nb) (tr:Nat) (htr:d.tree=tr) (hv:tr≤15∧0≤d.value∧d.value≤61440∧d.value.tmod 4096=0) (ps:List Int) (_hps:ps.length≤16) (hCS:CS.length=nb*5) :
  FnM Tryz.prog 104 [.ptr 3 0,.dat false (.rp d.cells)] (memQ nb v ls (CS.set (A*5+1) (.own 960 0 0 ps.length)) (.row 0 false true 1 (ps.map zad)) T) (.dat true (.int .i64 0))
   ((960,.row (tr+1-ps.length) false true 1 ((za9 ps tr d.value).map zad))::(950,.cells false true (CS.set (A*5+1) (.own 960 (tr+1-ps.length) 0 (za9 ps tr d.value).length)))::memQ nb v ls (CS.set (A*5+1) (.own 960 0 0 ps.length)) (.row 0 false true 1 (ps.map zad)) T):=by
 refine zez Tryz.func104 rfl rfl rfl ?_
 obtain⟨kind,dn,tree,value⟩:=d
 simp only at hA htr hv ⊢
 subst hA
 subst htr
 obtain⟨v1,v2,v3,v4⟩:=hv
 simp only[envD,memQ,memD,Doing.cells]
 have hAl:A*5+1<CS.length:=by omega
 have hg:∀ x:D,(CS.set (A*5+1) x)[((A:Nat):Int).toNat*5+1]? = some x:=fun x=>by rw[Int.toNat_natCast,List.getElem?_set_self hAl]
 have hb:∀ x:D,Nat.ble (((A:Nat):Int).toNat*5+1+1) (CS.set (A*5+1) x).length=true:=fun x=>Nat.ble_eq_true_of_le (by rw[List.length_set,Int.toNat_natCast];omega)
 have hs:∀ x y:D,splice (CS.set (A*5+1) x) (((A:Nat):Int).toNat*5+1) [y]=CS.set (A*5+1) y:=fun x y=>by
  rw[Int.toNat_natCast,zb0 (by rw[List.length_set];exact hAl),List.set_set]
 generalize A*5+1=p at hg hb hs
 repeat' (first|refine qV ?_|refine qX ?_|((first|apply dX rfl|apply Da rfl rfl|apply Db rfl rfl qN);(focus ((try intro hg);first|exact zbQ rfl|exact zdE rfl rfl (by omega) (by omega)|exact qMo));constructor)|refine qP ?_)
 refine zq1 (fun k:Nat=>⟨[(1,.dat false (.rp [.int .i64 kind,.int .i64 A,.int .i64 tr,.int .i64 value])),(5,.ptr 950 (((A:Nat):Int).toNat*5))],
   (960,.row k false true 1 ((padI ps k).map zad))::(950,.cells false true (CS.set p (.own 960 k 0 (padI ps k).length)))::(3,.cells false true [.sl 950 nb,.own 941 v 0 ls.length])::(941,.row v false true 6 (ls.map zar))::(950,.cells false true (CS.set p (.own 960 0 0 ps.length)))::(960,.row 0 false true 1 (ps.map zad))::T,100⟩)
  (fun k=>k≤tr+1-ps.length) (fun k=>tr+1-ps.length-k) 0 (Nat.zero_le _)
  ⟨rfl,fun g=>by rw[show padI ps 0=ps from by unfold padI;simp];exact zth g,by repeat' (first|exact zkq|exact .inl rfl|exact .inr (.inl ⟨_,rfl,rfl⟩)|apply zia)⟩ (fun k hk=>?_)
 have hpl:=zrB ps k
 by_cases hlt:k<tr+1-ps.length
 ·have hst:=zpM ps k
  repeat' (first|refine qV ?_|refine qX ?_|((first|apply dX rfl|apply Da rfl rfl|apply Db rfl rfl qN);(focus ((try intro hg);first|exact zaI rfl rfl (hg (.own 960 k 0 (padI ps k).length))|exact zan (f:=zad) (us:=padI ps k) (bs := [32768]) rfl rfl (.dat _ _) rfl rfl (.inr ⟨rfl,inferInstance⟩) rfl (by simp only[List.length_singleton];omega)|exact zbg rfl rfl rfl rfl rfl (hb (.own 960 k 0 (padI ps k).length))|exact qMo));constructor)|refine qP ?_)
  refine zlB (k+1) hlt (by omega) ⟨rfl,fun g=>?_,by repeat' (first|exact zkq|exact .inl rfl|exact .inr (.inl ⟨_,rfl,rfl⟩)|apply zia)⟩
  rw[hst,hs]
  exact ztg g
 ·have hkk:k=tr+1-ps.length:=by omega
  have htr:tr<(padI ps k).length:=by omega
  have hu:(padI ps k)[(tr:Int).toNat]? = some ((padI ps k)[tr]'htr):=List.getElem?_eq_getElem _
  have hsp:za9 ps tr value=(padI ps k).set tr value:=by unfold za9 padI;rw[hkk]
  have hsl:(za9 ps tr value).length=(padI ps k).length:=by rw[hsp,List.length_set]
  repeat' (first|refine qV ?_|refine qX ?_|((first|apply dX rfl|apply Da rfl rfl|apply Db rfl rfl qN);(focus ((try intro hg);first|exact zaI rfl rfl (hg (.own 960 k 0 (padI ps k).length))|exact zc7 rfl rfl rfl (by omega) (by omega)|exact zba (f:=zad) (a:=value) rfl rfl hu rfl rfl (.inr ⟨rfl,inferInstance⟩) rfl rfl|exact qMo));constructor)|refine qP ?_)
  refine zbJ (.tmp rfl qF .nil) rfl ?_
  rw[hsl,hsp,←hkk]
  exact zt4
end
end Go.Proofs.YtcdhlofhhcgohaaGreat
namespace Go.Proofs.YtcdhlofhhcgohaaGreat
open Go.RowKit
theorem zmV {ver sz:Nat} {xs:List (List V)} {C':List D} {M:Mem} (h:∀ g,M.at g ≠ .gone→(M.at g).mut=true) (g:Nat) (hg:Mem.at ((960,.row ver false true sz xs)::(950,.cells false true C')::M) g ≠ .gone):(Mem.at ((960,.row ver false true sz xs)::(950,.cells false true C')::M) g).mut=true:=by
 have e:Mem.at ((960,.row ver false true sz xs)::(950,.cells false true C')::M) g=if 960=g then .row ver false true sz xs else if 950=g then .cells false true C' else M.at g:=by
  show look Box.gone _ g=_
  rw[zai,zai];rfl
 rw[e]at hg ⊢
 split
 ·rfl
 ·split
  ·rfl
  ·rename_i h1 h2
   rw[if_neg h1,if_neg h2]at hg
   exact h g hg
theorem zkY {ver sz:Nat} {xs:List (List V)} {C':List D} (KT:List Nat):∀ g,g∈([(960,.row ver false true sz xs),(950,.cells false true C')]:Mem).map (·.1)→g∈netQ KT:=fun g h=>by
 simp only[List.map_cons,List.map_nil,List.mem_cons,List.mem_nil_iff,or_false]at h
 unfold netQ
 rcases h with rfl|rfl<;>simp
attribute [local irreducible] SStep DW DWS DWin DOps zaG zaE zaJ zd2 endK endM retQ zaN FnF FnG FnI FnM Wk IntKind.wrap IntKind.andI IntKind.orI IntKind.xorI IntKind.andNotI IntKind.shlI IntKind.shrI
section
variable (nb v : Nat) (ls : List Link) (CS : List D) (B : Box) (T : Mem) (KT : List Nat) (hF : FrmT CS B T KT)
include hF
theorem zkZ (d:Doing) (hk:d.kind=5) (r:Int) (hc:FnM Tryz.prog 104 [.ptr 3 0,.dat false (.rp d.cells)] (memQ nb v ls CS B T) (.dat true (.int .i64 r)) (memQ nb v ls CS B T)) :
  FnM Tryz.prog 57 [.ptr 3 0,.dat false (.rp d.cells)] (memQ nb v ls CS B T) (.dat true (.int .i64 r)) (memQ nb v ls CS B T):=by
 refine zez Tryz.func57 rfl rfl rfl ?_
 obtain⟨kind,dn,tree,value⟩:=d
 simp only at hk
 subst hk
 have hcl:=zjx (nb:=nb) (v:=v) (ls:=ls) hF
 have hmu:=zgx (nb:=nb) (v:=v) (ls:=ls) hF
 have hou:=zgw (nb:=nb) (v:=v) (ls:=ls) hF
 simp only[envD,Doing.cells]at hc ⊢
 repeat' (first|refine dstep rfl (.plain rfl (zc5 (netQ KT) [] hc rfl (fun _ _=>rfl) hou hcl hmu (fun _=>rfl) (fun _ h=>by cases h) rfl rfl rfl)) ?_|refine qV ?_|refine qX ?_|((first|apply dX rfl|apply Da rfl rfl|apply Db rfl rfl qN);(focus ((try intro hg);first|exact qMo));constructor)|refine qP ?_)
 refine zbJ (.tmp rfl qF .nil) rfl ?_
 exact fun _=>rfl
theorem zpO (d:Doing) (hk:d.kind=5) (ver sz:Nat) (xs:List (List V)) (C':List D) (hc:FnM Tryz.prog 104 [.ptr 3 0,.dat false (.rp d.cells)] (memQ nb v ls CS B T) (.dat true (.int .i64 0)) ((960,.row ver false true sz xs)::(950,.cells false true C')::memQ nb v ls CS B T)) :
  FnM Tryz.prog 57 [.ptr 3 0,.dat false (.rp d.cells)] (memQ nb v ls CS B T) (.dat true (.int .i64 0)) ((960,.row ver false true sz xs)::(950,.cells false true C')::memQ nb v ls CS B T):=by
 refine zez Tryz.func57 rfl rfl rfl ?_
 obtain⟨kind,dn,tree,value⟩:=d
 simp only at hk
 subst hk
 have hcl:=zjx (nb:=nb) (v:=v) (ls:=ls) hF
 have hmu:=zmV (ver:=ver) (sz:=sz) (xs:=xs) (C':=C') (zgx (nb:=nb) (v:=v) (ls:=ls) hF)
 have hou:=zgw (nb:=nb) (v:=v) (ls:=ls) hF
 simp only[envD,Doing.cells]at hc ⊢
 repeat' (first|refine dstep rfl (.plain rfl (zc5 (netQ KT) [(960,.row ver false true sz xs),(950,.cells false true C')] hc rfl (fun _ _=>rfl) hou hcl hmu (fun _=>rfl) (zkY KT) rfl rfl rfl)) ?_|refine qV ?_|refine qX ?_|((first|apply dX rfl|apply Da rfl rfl|apply Db rfl rfl qN);(focus ((try intro hg);first|exact qMo));constructor)|refine qP ?_)
 refine zbJ (.tmp rfl qF .nil) rfl ?_
 exact fun _=>rfl
end
end Go.Proofs.YtcdhlofhhcgohaaGreat
namespace Go.Proofs.YtcdhlofhhcgohaaGreat
open Go.RowKit
attribute [local irreducible] nm ix
instance : CellsI Doing.cells 4:=⟨fun _=>rfl,fun t d h=>by
 simp only[Doing.cells,List.mem_cons,List.mem_nil_iff,or_false]at h
 rcases h with rfl|rfl|rfl|rfl<;>rfl⟩
theorem zrC (k:Nat) (bs:List Bridge):brT k 0 bs=brCS k bs:=by unfold brT;simp
def netL (nb:Nat):List Nat:=3::netK nb
theorem zjy {m m':Mem} {n:Net} (hag:∀ g,g∈netL n.bridges.length→m'.at g=m.at g) (h1:m.at 3 = .cells false true [.sl 950 n.bridges.length,.own 941 0 0 n.links.length]) (h2:m.at 950 = .cells false true (brCS n.bridges.length n.bridges)) (h3:m.at 941 = .row 0 false true 6 (n.links.map zar))
  (h4:∀ (k:Nat) r,(zaA n.bridges.length n.bridges)[k]? = some r→m.at (nm k) = .row 0 false true 1 (r.map zad)):Lnd m' (.ptr 3 0) (.rp n.cells):=by
 have e3:m'.at 3=m.at 3:=hag 3 (List.mem_cons_self ..)
 have e9:m'.at 950=m.at 950:=hag 950 (List.mem_cons_of_mem _ (List.mem_cons_of_mem _ (List.mem_cons_self ..)))
 have e1:m'.at 941=m.at 941:=hag 941 (List.mem_cons_of_mem _ (List.mem_cons_self ..))
 refine zs7 (m:=m') (N:=3) (ver:=0) (vl:=0) (K:=0) (frz:=false) (nw:=true) (fr2:=false) (by rw[e3];exact h1) (by rw[e9,zrC];exact h2) (by rw[e1];exact h3) rfl (fun k b hb=>?_)
 have hk:=(List.getElem?_eq_some_iff.1 hb).1
 rw[hag (nm k) (List.mem_cons_of_mem _ (zjv hk))]
 exact h4 k b.prios (by rw[zcq hk,hb];rfl)
theorem zpP {P:Program} {c:Code} {Q:Exit→St→Prop} {env:Env} {pre:Mem} {k:Nat} {n:Net} (hp:lowB pre=true) (hN:Mem.at pre 3 = .cells false true [.sl 950 n.bridges.length,.own 941 0 0 n.links.length]) (h9:(pre.any fun p=>Nat.beq p.1 941)=false)
  (h:∀ Z:Mem,DW P c Q ⟨env,(3,.cells false true [.dat true (.slice (n.bridges.map zaj)),.dat true (.slice (n.links.map zar))])::(pre++Z),k⟩) :
  DW P c Q ⟨env,famC zad 1 (pre++[(941,.row 0 false true 6 (n.links.map zar))]) (brCS n.bridges.length n.bridges) (zaA n.bridges.length n.bridges),k⟩:=by
 have hp':lowB (pre++[(941,Box.row 0 false true 6 (n.links.map zar))])=true:=by
  unfold lowB at hp ⊢
  rw[List.all_append,hp];rfl
 let X:=zaA n.bridges.length n.bridges
 let CS:=brCS n.bridges.length n.bridges
 let R:=n.links.map zar
 let Z:Mem:=(941,.row 0 true true 6 R)::(950,.cells true true CS)::famZ zad 1 X
 have hno:(941:Nat)∉pre.map (·.1):=fun hm=>by
  obtain⟨p,hp,e⟩:=List.mem_map.1 hm
  have:=List.any_eq_false.1 h9 p hp
  rw[e]at this
  simp at this
 have hMat:∀ g,Mem.at (famC zad 1 (pre++[(941,Box.row 0 false true 6 R)]) CS X) g=if g∈pre.map (·.1)then pre.at g else if 941=g then .row 0 false true 6 R else if 950=g then .cells false true CS else Mem.at (famM zad 1 X) g:=fun g=>by
  rw[zfL,List.map_append]
  by_cases h1:g∈pre.map (·.1)
  ·rw[if_pos (List.mem_append_left _ h1),if_pos h1,zaP,if_pos h1]
  ·rw [if_neg h1]
   by_cases h2:941=g
   ·subst h2
    rw[if_pos (List.mem_append_right _ (by simp)),if_pos rfl,zaP,if_neg h1];rfl
   ·rw[if_neg h2,if_neg (fun hm=>by
     rcases List.mem_append.1 hm with hm|hm
     ·exact h1 hm
     ·simp at hm;exact h2 hm.symm)]
 have hZat:∀ g,Mem.at (pre++Z) g=if g∈pre.map (·.1)then pre.at g else if 941=g then .row 0 true true 6 R else if 950=g then .cells true true CS else Mem.at (famZ zad 1 X) g:=fun g=>by
  rw[zaP]
  split
  ·rfl
  ·show look Box.gone Z g=_
   rw[zai,zai];rfl
 have hlow:∀ g,g∈pre.map (·.1)→g<950:=fun g hg=>zbS hp hg
 have hfz:∀ g,Mem.at (pre++Z) g=if(Nat.beq g 941 || Nat.ble 950 g)=true then zbb (Mem.at (famC zad 1 (pre++[(941,Box.row 0 false true 6 R)]) CS X) g)else Mem.at (famC zad 1 (pre++[(941,Box.row 0 false true 6 R)]) CS X) g:=fun g=>by
  rw[hMat,hZat]
  by_cases h1:g∈pre.map (·.1)
  ·have hb:(Nat.beq g 941 || Nat.ble 950 g)=false:=by
    have h2:=hlow g h1
    have h3:g≠941:=fun e=>hno (e▸h1)
    have b1:Nat.beq g 941=false:=by
     cases hb:Nat.beq g 941 with
     | false=>rfl
     | true=>exact absurd (Nat.eq_of_beq_eq_true hb) h3
    have b2:Nat.ble 950 g=false:=by
     cases hb:Nat.ble 950 g with
     | false=>rfl
     | true=>have:=Nat.le_of_ble_eq_true hb;omega
    rw[b1,b2];rfl
   rw[if_pos h1,if_pos h1,hb];rfl
  ·rw [if_neg h1,if_neg h1]
   by_cases h2:941=g
   ·subst h2;rfl
   ·rw [if_neg h2,if_neg h2]
    by_cases h3:950=g
    ·subst h3;rfl
    ·rw[if_neg h3,if_neg h3]
     have b1:Nat.beq g 941=false:=by
      cases hb:Nat.beq g 941 with
      | false=>rfl
      | true=>exact absurd (Nat.eq_of_beq_eq_true hb).symm h2
     rw[b1,Bool.false_or,zja,zdn]
     by_cases h4:3000≤g
     ·rw[if_pos h4,if_pos h4,if_pos (Nat.ble_eq_true_of_le (by omega))]
      cases X[ix g]? <;> rfl
     ·rw[if_neg h4,if_neg h4]
      split<;>rfl
 refine zaZ (zib (mem':=pre++Z) (fun g=>Nat.beq g 941 || Nat.ble 950 g) hfz (fun g kt et es h1 h2=>?_)) ?_
 ·rw [hMat]at h2
  by_cases h3:g∈pre.map (·.1)
  ·have:=hfz g
   rw[if_pos h1,hMat,hZat,if_pos h3,if_pos h3]at this
   have hl:=hlow g h3
   have h5:g≠941:=fun e=>hno (e▸h3)
   have b1:Nat.beq g 941=false:=by
    cases hb:Nat.beq g 941 with
    | false=>rfl
    | true=>exact absurd (Nat.eq_of_beq_eq_true hb) h5
   rw[b1,Bool.false_or]at h1
   have:=Nat.le_of_ble_eq_true h1
   omega
  ·rw [if_neg h3]at h2
   split at h2
   ·cases h2
   ·split at h2
    ·cases h2
    ·rw[zdn]at h2
     split at h2
     ·cases hx:X[ix g]? with
      | none=>rw[hx]at h2;cases h2
      | some r=>rw[hx]at h2;cases h2
     ·cases h2
 ·have h950:Mem.at (pre++Z) 950 = .cells true true CS:=by
   rw[hZat,if_neg (fun hm=>by have:=hlow _ hm;omega)];rfl
  have h941:Mem.at (pre++Z) 941 = .row 0 true true 6 R:=by rw[hZat,if_neg hno];rfl
  have h3:Mem.at (pre++Z) 3 = .cells false true [.sl 950 n.bridges.length,.own 941 0 0 n.links.length]:=by
   rw[zaP,if_pos (zdz (by rw[hN];simp))];exact hN
  refine zrz 3 [.dat true (.slice (n.bridges.map zaj)),.dat true (.slice (n.links.map zar))] h3 rfl (fun C hm j d d' v hd hd' hr=>?_) (h Z)
  match j,hd,hd' with
  | 0, hd,hd' =>
   injection hd with hd;injection hd' with hd';subst hd;subst hd'
   refine zq2 (sz:=5) (fl:=true) hm h950 (fun _=>rfl) _ (fun i e h=>?_) (fun i j e x h1 h2=>?_) (by simp) hr
   ·rw[List.getElem?_map]at h
    obtain⟨r,_,rfl⟩:=Option.map_eq_some_iff.1 h
    rfl
   ·rw [List.getElem?_map]at h1
    obtain⟨b,hb,rfl⟩:=Option.map_eq_some_iff.1 h1
    have hi:=(List.getElem?_eq_some_iff.1 hb).1
    have hj:j<5:=(List.getElem?_eq_some_iff.1 h2).1
    have hcs:CS[i*5+j]? = (zec n.bridges.length i b)[j]? := by
     show(brCS n.bridges.length n.bridges)[i*5+j]? = _
     rw[zcv _ _ _ _ hj,hb];rfl
    rw[hcs]
    unfold zec
    rw[if_pos hi,decide_eq_true hi]
    match j,hj with
    | 0,_=>injection h2 with h2;subst h2;exact⟨rfl,_,_,rfl,rfl,fun _=>.inr rfl⟩
    | 1,_ =>
     injection h2 with h2;subst h2
     have hat:Mem.at (pre++Z) (nm i) = .row 0 true true 1 (b.prios.map zad):=by
      have:=zcZ i
      rw[hZat,if_neg (fun hm=>by have:=hlow _ hm;omega),if_neg (by omega),if_neg (by omega),zja,if_pos this,ztG]
      have hX:X[i]? = some b.prios:=by
       show(zaA n.bridges.length n.bridges)[i]? = _
       rw[zcq hi,hb];rfl
      rw[hX]
     have h0:(List.drop 0 (b.prios.map zad)).take b.prios.length=b.prios.map zad:=by rw[List.drop_zero];exact List.take_of_length_le (by simp)
     refine⟨rfl,.own (nm i) 0 0 b.prios.length,true,rfl,?_,fun _=>.inl rfl⟩
     show(match Mem.at (pre++Z) (nm i)with | .row ver' true nw _ xs=>(bif Nat.beq 0 ver' then some (nw,V.slice ((xs.drop 0).take b.prios.length))else none)|_=>none)=_
     rw[hat]
     show some (true,V.slice (List.take b.prios.length (List.drop 0 (b.prios.map zad))))=_
     rw[h0]
    | 2,_=>injection h2 with h2;subst h2;exact⟨rfl,_,_,rfl,rfl,fun _=>.inl rfl⟩
    | 3,_=>injection h2 with h2;subst h2;exact⟨rfl,_,_,rfl,rfl,fun _=>.inr rfl⟩
    | 4,_=>injection h2 with h2;subst h2;exact⟨rfl,_,_,rfl,rfl,fun _=>.inl rfl⟩
  | 1,hd,hd' =>
   injection hd with hd;injection hd' with hd';subst hd;subst hd'
   have:=zeE (d := .own 941 0 0 n.links.length) (n:=true) (x := .slice R) hm (fun _ _=>rfl) (by
    show(match Mem.at (pre++Z) 941 with | .row ver' true nw _ xs=>(bif Nat.beq 0 ver' then some (nw,V.slice ((xs.drop 0).take n.links.length))else none)|_=>none)=_
    rw[h941]
    show some (true,V.slice (List.take n.links.length (List.drop 0 R)))=_
    rw[List.drop_zero,List.take_of_length_le (by show(n.links.map zar).length≤_;simp)]) hr.rd
   exact this
  | j+2,hd,_=>simp at hd
section
variable {n : Net} {d : Doing}
theorem zpQ (hk:d.kind=2∨d.kind=3) {A:Nat} (hA:d.n=A) {l:Link} (hx:n.links[A]? = some l):doS n d=(⟨n.bridges,n.links.set A { l with up:=decide (d.kind=2) }⟩,0):=by
 have h1:=(List.getElem?_eq_some_iff.1 hx).1
 unfold doS
 rw[if_pos (by omega),if_neg (by omega),if_pos (by omega),hA,Int.toNat_natCast,zeq hx]
theorem zmW (hk:d.kind=4) {A:Nat} (hA:d.n=A) {l:Link} (hx:n.links[A]? = some l) (hv:1≤d.value∧d.value≤200000):doS n d=(⟨n.bridges,n.links.set A { l with cost:=d.value }⟩,0):=by
 have h1:=(List.getElem?_eq_some_iff.1 hx).1
 unfold doS
 rw[if_pos (by omega),if_neg (by omega),if_neg (by omega),if_neg (by omega),hA,Int.toNat_natCast,zeq hx]
theorem zjz (hk:d.kind=2∨d.kind=3∨d.kind=4) (hn:d.n<0∨(n.links.length:Int)≤d.n):doS n d=(n,6):=by
 unfold doS
 rw[if_pos hk,if_pos hn]
theorem zmX (hk:d.kind=4) (hn:0≤d.n∧d.n<(n.links.length:Int)) (hv:d.value<1∨200000<d.value):doS n d=(n,3):=by
 unfold doS
 rw[if_pos (by omega),if_neg (by omega),if_neg (by omega),if_pos hv]
theorem zjA (h2:d.kind≠2) (h3:d.kind≠3) (h4:d.kind≠4) (h5:d.kind≠5):doS n d=(n,1):=by
 unfold doS
 rw[if_neg (by omega),if_neg h5]
theorem zht (hk:d.kind=5) (hn:d.n<0∨(n.bridges.length:Int)≤d.n):doS n d=(n,6):=by
 unfold doS
 rw[if_neg (by omega),if_pos hk,if_pos hn]
theorem zmY (hk:d.kind=5) (hn:0≤d.n∧d.n<(n.bridges.length:Int)) (hv:d.tree<0∨15<d.tree∨d.value<0∨61440<d.value∨d.value.tmod 4096≠0):doS n d=(n,3):=by
 unfold doS
 rw[if_neg (by omega),if_pos hk,if_neg (by omega),if_pos hv]
theorem zk0 (hk:d.kind=5) {A:Nat} (hA:d.n=A) {b:Bridge} (hb:n.bridges[A]? = some b) {tr:Nat} (htr:d.tree=tr) (hv:tr≤15∧0≤d.value∧d.value≤61440∧d.value.tmod 4096=0) :
  doS n d=(⟨n.bridges.set A { b with prios:=za9 b.prios tr d.value },n.links⟩,0):=by
 have h1:=(List.getElem?_eq_some_iff.1 hb).1
 unfold doS
 rw[if_neg (by omega),if_pos hk,if_neg (by omega),if_neg (by omega),hA,htr,Int.toNat_natCast,Int.toNat_natCast,zeq hb]
end
theorem zti (bs:List Bridge):FrmT (brCS bs.length bs) .gone (famM zad 1 (zaA bs.length bs)) ((List.range bs.length).map nm) where
 out g hg:=by
  refine Classical.byContradiction fun hn=>?_
  obtain⟨k,r,h1,h2⟩:=zfj zad 1 (at_mem hn)
  injection h2 with h2
  have:=(List.getElem?_eq_some_iff.1 h1).1
  rw[zc6 (Nat.le_refl _)]at this
  exact hg (List.mem_map.2 ⟨k,List.mem_range.2 this,h2.symm⟩)
 row g:=by
  by_cases hn:Mem.at (famM zad 1 (zaA bs.length bs)) g = .gone
  ·exact .inl hn
  ·obtain⟨k,r,_,h2⟩:=zfj zad 1 (at_mem hn)
   injection h2 with _ h2
   exact .inr ⟨_,_,_,h2⟩
 cs d hd g hg:=by
  obtain⟨i,_,rfl,hi⟩:=zkX hd hg
  exact .inr (List.mem_map.2 ⟨i,List.mem_range.2 hi,rfl⟩)
 b := .inl rfl
theorem znT {nb g:Nat} (h:g∈netQ ((List.range nb).map nm)):g=3∨g=941∨g=950∨g=960∨∃ k,k<nb∧g=nm k:=by
 unfold netQ at h
 simp only[List.mem_cons,List.mem_map,List.mem_range]at h
 rcases h with h|h|h|h|⟨k,hk,rfl⟩
 ·exact .inl h
 ·exact .inr (.inl h)
 ·exact .inr (.inr (.inl h))
 ·exact .inr (.inr (.inr (.inl h)))
 ·exact .inr (.inr (.inr (.inr ⟨k,hk,rfl⟩)))
theorem zrD {pre:Mem} {n:Net} (hp:lowB pre=true) (h3:Mem.at (famC zad 1 pre (brCS n.bridges.length n.bridges) (zaA n.bridges.length n.bridges)) 3 = .cells false true [.sl 950 n.bridges.length,.own 941 0 0 n.links.length])
  (h4:Mem.at (famC zad 1 pre (brCS n.bridges.length n.bridges) (zaA n.bridges.length n.bridges)) 941 = .row 0 false true 6 (n.links.map zar)) :
  ∀ g,g∈netQ ((List.range n.bridges.length).map nm)→Mem.at (memQ n.bridges.length 0 n.links (brCS n.bridges.length n.bridges) .gone (famM zad 1 (zaA n.bridges.length n.bridges))) g=Mem.at (famC zad 1 pre (brCS n.bridges.length n.bridges) (zaA n.bridges.length n.bridges)) g:=fun g hg=>by
 rw[zhs]
 rcases znT hg with rfl|rfl|rfl|rfl|⟨k,hk,rfl⟩
 ·rw[h3];rfl
 ·rw[h4];rfl
 ·rw[zmR zad 1 hp];rfl
 ·rw[zmU zad 1 hp (by decide) (by decide)];rfl
 ·have:=zcZ k
  rw[if_neg (by omega),if_neg (by omega),if_neg (by omega),if_neg (by omega),zfM zad 1 hp (by omega)]
theorem zmZ {ver sz:Nat} {xs:List (List V)} {M:Mem} (h:∀ g,M.at g ≠ .gone→(M.at g).mut=true) (g:Nat) (hg:Mem.at ((941,.row ver false true sz xs)::M) g ≠ .gone):(Mem.at ((941,.row ver false true sz xs)::M) g).mut=true:=by
 have e:Mem.at ((941,.row ver false true sz xs)::M) g=if 941=g then .row ver false true sz xs else M.at g:=by
  show look Box.gone _ g=_
  rw[zai];rfl
 rw[e]at hg ⊢
 split
 ·rfl
 ·rename_i h1
  rw[if_neg h1]at hg
  exact h g hg
theorem zk1 {ver sz:Nat} {xs:List (List V)} (KT:List Nat):∀ g,g∈([(941,.row ver false true sz xs)]:Mem).map (·.1)→g∈netQ KT:=fun g h=>by
 simp only[List.map_cons,List.map_nil,List.mem_cons,List.mem_nil_iff,or_false]at h
 unfold netQ
 subst h;simp
theorem zl7 {k A:Nat} {bs:List Bridge} {b:Bridge} {ps:List Int} (hA:A<k):zaA k (bs.set A { b with prios:=ps })=(zaA k bs).set A ps:=by
 refine List.ext_getElem? fun j=>?_
 unfold zaA
 rw[List.getElem?_map,List.getElem?_take,List.getElem?_set,List.getElem?_set,List.getElem?_map,List.getElem?_take,List.length_map,List.length_take]
 by_cases h1:A=j
 ·subst h1
  rw[if_pos hA,if_pos rfl,if_pos rfl]
  by_cases h2:A<bs.length
  ·rw[if_pos h2,if_pos (by omega)];rfl
  ·rw[if_neg h2,if_neg (by omega)];rfl
 ·rw[if_neg h1,if_neg h1]
def znU (nb A:Nat):List Nat:=((List.range nb).filter fun k=>decide (k≠A)).map nm
theorem zhu {nb A g:Nat}:g∈znU nb A↔∃ k,k<nb∧k≠A∧g=nm k:=by
 unfold znU
 simp only[List.mem_map,List.mem_filter,List.mem_range,decide_eq_true_eq]
 constructor
 ·rintro⟨k,⟨h1,h2⟩,h3⟩;exact⟨k,h1,h2,h3.symm⟩
 ·rintro⟨k,h1,h2,h3⟩;exact⟨k,⟨h1,h2⟩,h3.symm⟩
def zrE (A:Nat) (X:List (List Int)):Mem:=(nm A,.gone)::famM zad 1 X
theorem zjB (A:Nat) (X:List (List Int)) (g:Nat):Mem.at (zrE A X) g=if nm A=g then .gone else Mem.at (famM zad 1 X) g:=zai ..
theorem zrF {bs:List Bridge} {A:Nat} {b:Bridge} (_hb:bs[A]? = some b):FrmT ((brCS bs.length bs).set (A*5+1) (.own 960 0 0 b.prios.length)) (.row 0 false true 1 (b.prios.map zad)) (zrE A (zaA bs.length bs)) (znU bs.length A) where
 out g hg:=by
  rw[zjB]
  split
  ·rfl
  ·rename_i hne
   refine Classical.byContradiction fun hn=>?_
   obtain⟨k,r,h1,h2⟩:=zfj zad 1 (at_mem hn)
   injection h2 with h2
   have:=(List.getElem?_eq_some_iff.1 h1).1
   rw[zc6 (Nat.le_refl _)]at this
   exact hg (zhu.2 ⟨k,this,fun e=>hne (by rw[h2,e]),h2⟩)
 row g:=by
  rw[zjB]
  split
  ·exact .inl rfl
  ·by_cases hn:Mem.at (famM zad 1 (zaA bs.length bs)) g = .gone
   ·exact .inl hn
   ·obtain⟨k,r,_,h2⟩:=zfj zad 1 (at_mem hn)
    injection h2 with _ h2
    exact .inr ⟨_,_,_,h2⟩
 cs d hd g hg:=by
  obtain⟨j,hj,hd⟩:=List.mem_iff_getElem.1 hd
  have h1:((brCS bs.length bs).set (A*5+1) (.own 960 0 0 b.prios.length))[j]? = some d:=by rw[List.getElem?_eq_getElem hj,hd]
  rw[List.getElem?_set]at h1
  split at h1
  ·split at h1
   ·injection h1 with h1;subst h1;injection hg with hg;exact .inl hg.symm
   ·cases h1
  ·rename_i hne
   obtain⟨b',hb',hd'⟩:=zfN h1
   rcases zed hd' with⟨n,x,rfl⟩|⟨ho,hk,rfl⟩
   ·cases hg
   ·injection hg with hg
    exact .inr (zhu.2 ⟨j / 5,hk,fun e=>hne (by omega),hg.symm⟩)
 b := .inr ⟨_,_,_,rfl⟩
theorem zpR {nb A g:Nat} (h:g∈netQ (znU nb A)):g=3∨g=941∨g=950∨g=960∨∃ k,k<nb∧k≠A∧g=nm k:=by
 unfold netQ at h
 simp only[List.mem_cons]at h
 rcases h with h|h|h|h|h
 ·exact .inl h
 ·exact .inr (.inl h)
 ·exact .inr (.inr (.inl h))
 ·exact .inr (.inr (.inr (.inl h)))
 ·exact .inr (.inr (.inr (.inr (zhu.1 h))))
end Go.Proofs.YtcdhlofhhcgohaaGreat
namespace Go.Proofs.YtcdhlofhhcgohaaGreat
open Go.RowKit
attribute [local irreducible] SStep DW DWin DOps zaG zaE zaJ retQ zaN FnF FnG FnI Wk IntKind.wrap IntKind.andI IntKind.orI IntKind.xorI IntKind.andNotI IntKind.shlI IntKind.shrI
theorem zl8 (l:List Int) (hl:l.length≤1099511627776):FnG Tryz.prog 96 [.dat false (.slice (l.map zad))] [] (.own 1000 0 0 l.length) [(1000,.row 0 false true 1 (l.map zad))]:=by
 refine zbj Tryz.func96 rfl rfl rfl ?_
 simp only[envD]
 repeat' (first|refine zct rfl rfl rfl (fun h0=>?_) ?_|(apply dt rfl;case h=>exact zb8 (els := []) _ rfl rfl rfl rfl rfl)|refine qU ?_|((first|apply dX rfl|apply Da rfl rfl|apply Db rfl rfl qN);(focus ((try intro hg);first|exact zan (f:=zad) (us := []) (bs:=l) rfl rfl (.dat _ _) rfl rfl (.inr ⟨rfl,inferInstance⟩) rfl (by simp only[List.length_nil];omega)|exact qM));constructor)|refine qP ?_)
 ·have hl0:l=[]:=List.map_eq_nil_iff.1 h0
  subst hl0
  exact gOwn (Wk_g (fun g=>none) rfl rfl kq)
 ·exact gOwn (Wk_g (fun g=>if g=1000 then some 5 else none) rfl rfl kq)
theorem zf4 (l:List Link) (hl:l.length≤1048576):FnG Tryz.prog 95 [.dat false (.slice (l.map zar))] [] (.own 1000 0 0 l.length) [(1000,.row 0 false true 6 (l.map zar))]:=by
 refine zbj Tryz.func95 rfl rfl rfl ?_
 simp only[envD]
 repeat' (first|refine zct rfl rfl rfl (fun h0=>?_) ?_|(apply dt rfl;case h=>exact zb8 (els := []) _ rfl rfl rfl rfl rfl)|refine qU ?_|((first|apply dX rfl|apply Da rfl rfl|apply Db rfl rfl qN);(focus ((try intro hg);first|exact zan (f:=zar) (us := []) (bs:=l) rfl rfl (.dat _ _) rfl rfl (.inr ⟨rfl,inferInstance⟩) rfl (by simp only[List.length_nil];omega)|exact qM));constructor)|refine qP ?_)
 ·have hl0:l=[]:=List.map_eq_nil_iff.1 h0
  subst hl0
  exact gOwn (Wk_g (fun g=>none) rfl rfl kq)
 ·exact gOwn (Wk_g (fun g=>if g=1000 then some 5 else none) rfl rfl kq)
theorem zeA (l:List Bridge) (hl:l.length≤1048576):FnG Tryz.prog 94 [.dat false (.slice (l.map zaj))] [] (.own 1000 0 0 l.length) [(1000,.row 0 false false 5 (l.map zaj))]:=by
 refine zbj Tryz.func94 rfl rfl rfl ?_
 simp only[envD]
 repeat' (first|refine zct rfl rfl rfl (fun h0=>?_) ?_|(apply dt rfl;case h=>exact zb8 (els := []) _ rfl rfl rfl rfl rfl)|refine qU ?_|((first|apply dX rfl|apply Da rfl rfl|apply Db rfl rfl qN);(focus ((try intro hg);first|exact zan (f:=zaj) (us := []) (bs:=l) rfl rfl (.dat _ _) rfl rfl (.inl rfl) rfl (by simp only[List.length_nil];omega)|exact qM));constructor)|refine qP ?_)
 ·have hl0:l=[]:=List.map_eq_nil_iff.1 h0
  subst hl0
  exact gOwn (Wk_g (fun g=>none) rfl rfl kq)
 ·exact gOwn (Wk_g (fun g=>if g=1000 then some 5 else none) rfl rfl kq)
theorem zk2 (l:List Mind) (hl:l.length≤1048576):FnG Tryz.prog 99 [.dat false (.slice (l.map Mind.cells))] [] (.own 1000 0 0 l.length) [(1000,.row 0 false false 9 (l.map Mind.cells))]:=by
 refine zbj Tryz.func99 rfl rfl rfl ?_
 simp only[envD]
 repeat' (first|refine zct rfl rfl rfl (fun h0=>?_) ?_|(apply dt rfl;case h=>exact zb8 (els := []) _ rfl rfl rfl rfl rfl)|refine qU ?_|((first|apply dX rfl|apply Da rfl rfl|apply Db rfl rfl qN);(focus ((try intro hg);first|exact zan (f:=Mind.cells) (us := []) (bs:=l) rfl rfl (.dat _ _) rfl rfl (.inl rfl) rfl (by simp only[List.length_nil];omega)|exact qM));constructor)|refine qP ?_)
 ·have hl0:l=[]:=List.map_eq_nil_iff.1 h0
  subst hl0
  exact gOwn (Wk_g (fun g=>none) rfl rfl kq)
 ·exact gOwn (Wk_g (fun g=>if g=1000 then some 5 else none) rfl rfl kq)
theorem zeZ (l:List Int) (hl:l.length≤1099511627776):FnF Tryz.prog 96 [.slice (l.map zad)] (.slice (l.map zad)):=by
 refine zal Tryz.func96 rfl rfl rfl ?_
 simp only[zap]
 repeat' (first|refine zct rfl rfl rfl (fun h0=>?_) ?_|(apply dt rfl;case h=>exact zb8 (els := []) _ rfl rfl rfl rfl rfl)|refine zaR 2 rfl rfl (by simp) ?_|refine qU ?_|((first|apply dX rfl|apply Da rfl rfl|apply Db rfl rfl qN);(focus ((try intro hg);first|exact zan (f:=zad) (us := []) (bs:=l) rfl rfl (.dat _ _) rfl rfl (.inr ⟨rfl,inferInstance⟩) rfl (by simp only[List.length_nil];omega)|exact qM));constructor)|refine qP ?_)
 ·have hl0:l=[]:=List.map_eq_nil_iff.1 h0
  subst hl0
  exact ret1 rfl (.inl rfl) rfl
 ·exact ret1 rfl (.inl rfl) rfl
theorem zl9 (l:List Way) (hl:l.length≤1048576):FnF Tryz.prog 97 [.slice (l.map wayV)] (.slice (l.map wayV)):=by
 refine zal Tryz.func97 rfl rfl rfl ?_
 simp only[zap]
 repeat' (first|refine zct rfl rfl rfl (fun h0=>?_) ?_|(apply dt rfl;case h=>exact zb8 (els := []) _ rfl rfl rfl rfl rfl)|refine zaR 2 rfl rfl (by simp) ?_|refine qU ?_|((first|apply dX rfl|apply Da rfl rfl|apply Db rfl rfl qN);(focus ((try intro hg);first|exact zan (f:=wayV) (us := []) (bs:=l) rfl rfl (.dat _ _) rfl rfl (.inr ⟨rfl,inferInstance⟩) rfl (by simp only[List.length_nil];omega)|exact qM));constructor)|refine qP ?_)
 ·have hl0:l=[]:=List.map_eq_nil_iff.1 h0
  subst hl0
  exact ret1 rfl (.inl rfl) rfl
 ·exact ret1 rfl (.inl rfl) rfl
end Go.Proofs.YtcdhlofhhcgohaaGreat
