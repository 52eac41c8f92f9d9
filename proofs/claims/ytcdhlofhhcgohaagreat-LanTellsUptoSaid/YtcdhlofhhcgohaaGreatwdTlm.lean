/- Contract: talk.mine. -/
import Derived.Test.YtcdhlofhhcgohaaGreatwcTlo
import Derived.Test.YtcdhlofhhcgohaaGreatwdTlc
import Derived.Test.YtcdhlofhhcgohaaGreatwdTld
namespace Go.Proofs.YtcdhlofhhcgohaaGreat
open Go.RowKit
def zjC (nw:Bool) (m:Mind):List D := [.dat false (.int .u64 m.vec.root),.dat false (.int .i64 m.vec.cost),.dat false (.int .u64 m.vec.bridge),.dat false (.int .i64 m.vec.port),.dat false (.int .i64 m.age),.dat false (.int .i64 m.rootPort),.dat nw (.slice (m.ports.map zad)),.dat nw (.slice (m.roles.map zad)),.dat nw (.slice (m.calm.map zad))]
theorem zpS (nw:Bool) (m:Mind):(zjC nw m).length=9:=rfl
def miCS (k:Nat) (l:List Mind):List D:=(l.mapIdx fun i m=>zjC (decide (i<k)) m).flatten
theorem zpT {k:Nat} {l:List Mind} (i:Nat) (e:List D) (h:(l.mapIdx fun i m=>zjC (decide (i<k)) m)[i]? = some e):e.length=9:=by
 rw[List.getElem?_mapIdx]at h
 obtain⟨b,_,rfl⟩:=Option.map_eq_some_iff.1 h
 exact zpS _ b
theorem zjD (k:Nat) (l:List Mind):(miCS k l).length=l.length*9:=by
 unfold miCS
 rw[zcX (sz:=9) _ zpT,List.length_mapIdx]
theorem zer (k:Nat) (l:List Mind) (i o:Nat) (ho:o<9):(miCS k l)[i*9+o]? = (l[i]?).bind fun m=>(zjC (decide (i<k)) m)[o]? := by
 unfold miCS
 rw[zcW (sz:=9) _ zpT i o ho,List.getElem?_mapIdx]
 cases l[i]? <;> rfl
theorem zpU (l:List Mind):(l.map Mind.cells).flatten.map (D.dat false)=miCS 0 l:=by
 have e:∀ l:List Mind,((l.map Mind.cells).flatten).map (D.dat false)=(l.map (zjC false)).flatten:=fun l=>by
  induction l with
  | nil=>rfl
  | cons m r ih=>rw[List.map_cons,List.flatten_cons,List.map_append,ih,List.map_cons,List.flatten_cons];rfl
 rw[e]
 unfold miCS
 congr 1
 refine List.ext_getElem? fun i=>?_
 rw[List.getElem?_map,List.getElem?_mapIdx]
 rfl
theorem zpV {k i:Nat} {l:List Mind} {m:Mind} (hm:l[i]? = some m):((miCS k l).drop (i*9)).take 9=zjC (decide (i<k)) m:=by
 have hi:=(List.getElem?_eq_some_iff.1 hm).1
 refine zfk rfl (fun j hj=>?_) (by rw[zjD];omega)
 rw[zer k l i j hj,hm];rfl
theorem zpW {k:Nat} {l:List Mind} {m:Mind} (hm:l[k]? = some m) :
  (((miCS k l).set (k*9+6) (.dat true (.slice (m.ports.map zad)))).set (k*9+7) (.dat true (.slice (m.roles.map zad)))).set (k*9+8) (.dat true (.slice (m.calm.map zad)))=miCS (k+1) l:=by
 have hk:=(List.getElem?_eq_some_iff.1 hm).1
 refine List.ext_getElem? fun j=>?_
 rw[List.getElem?_set,List.getElem?_set,List.getElem?_set,List.length_set,List.length_set,zjD]
 have hg:∀ o,o<9→(miCS (k+1) l)[k*9+o]? = (zjC true m)[o]? := fun o ho=>by rw[zer (k+1) l k o ho,hm,decide_eq_true (Nat.lt_succ_self k)];rfl
 by_cases h8:k*9+8=j
 ·rw[if_pos h8,if_pos (by omega),←h8,hg 8 (by decide)];rfl
 by_cases h7:k*9+7=j
 ·rw[if_neg h8,if_pos h7,if_pos (by omega),←h7,hg 7 (by decide)];rfl
 by_cases h6:k*9+6=j
 ·rw[if_neg h8,if_neg h7,if_pos h6,if_pos (by omega),←h6,hg 6 (by decide)];rfl
 rw[if_neg h8,if_neg h7,if_neg h6]
 have e:j=j / 9*9+j % 9:=by omega
 have h9:j % 9<9:=Nat.mod_lt _ (by decide)
 rw[e,zer k l _ _ h9,zer (k+1) l _ _ h9]
 cases hbj:l[j / 9]? with
 | none=>rfl
 | some b1 =>
  show(zjC (decide (j / 9<k)) b1)[j % 9]? = (zjC (decide (j / 9<k+1)) b1)[j % 9]?
  by_cases h1:j / 9=k
  ·have ho:j % 9<6:=by omega
   generalize j % 9=o at ho
   match o,ho with
   | 0,_=>rfl
   | 1,_=>rfl
   | 2,_=>rfl
   | 3,_=>rfl
   | 4,_=>rfl
   | 5,_=>rfl
  ·have hlt:j / 9<k↔j / 9<k+1:=by omega
   rw[decide_eq_decide.2 hlt]
theorem zrG {C:Cf} {m:Mem} {g:Nat} {v:Value} {l:List Mind} (hm:HoldsM C m) (hg:m.at g = .cells true true (miCS l.length l)) (h:RdS C m (.sl g l.length) v):RdD C m (.dat true (.slice (l.map Mind.cells))) v:=by
 refine zq2 (sz:=9) (fl:=true) hm hg (fun _=>rfl) _ (fun i e h=>?_) (fun i j e x h1 h2=>?_) (by simp) h
 ·rw[List.getElem?_map]at h
  obtain⟨r,_,rfl⟩:=Option.map_eq_some_iff.1 h
  rfl
 ·rw[List.getElem?_map]at h1
  obtain⟨r,hr,rfl⟩:=Option.map_eq_some_iff.1 h1
  have hi:=(List.getElem?_eq_some_iff.1 hr).1
  have hj:j<9:=by have:=(List.getElem?_eq_some_iff.1 h2).1;exact this
  rw[zer _ _ _ _ hj,hr,decide_eq_true hi]
  match j,hj with
  | 0,_=>injection h2 with h2;subst h2;exact⟨rfl,_,_,rfl,rfl,fun _=>.inr rfl⟩
  | 1,_=>injection h2 with h2;subst h2;exact⟨rfl,_,_,rfl,rfl,fun _=>.inr rfl⟩
  | 2,_=>injection h2 with h2;subst h2;exact⟨rfl,_,_,rfl,rfl,fun _=>.inr rfl⟩
  | 3,_=>injection h2 with h2;subst h2;exact⟨rfl,_,_,rfl,rfl,fun _=>.inr rfl⟩
  | 4,_=>injection h2 with h2;subst h2;exact⟨rfl,_,_,rfl,rfl,fun _=>.inr rfl⟩
  | 5,_=>injection h2 with h2;subst h2;exact⟨rfl,_,_,rfl,rfl,fun _=>.inr rfl⟩
  | 6,_=>injection h2 with h2;subst h2;exact⟨rfl,_,_,rfl,rfl,fun _=>.inl rfl⟩
  | 7,_=>injection h2 with h2;subst h2;exact⟨rfl,_,_,rfl,rfl,fun _=>.inl rfl⟩
  | 8,_=>injection h2 with h2;subst h2;exact⟨rfl,_,_,rfl,rfl,fun _=>.inl rfl⟩
theorem zjE (k:Nat) (l:List Mind):∀ (j:Nat) d,(miCS k l)[j]? = some d→∃ n x,d = .dat n x:=fun j d h=>by
 have e:j=j / 9*9+j % 9:=by omega
 have h9:j % 9<9:=Nat.mod_lt _ (by decide)
 rw[e,zer k l _ _ h9]at h
 obtain⟨m,hm,hd⟩:=Option.bind_eq_some_iff.1 h
 generalize j % 9=o at h9 hd
 match o,h9 with
 | 0,_=>injection hd with hd;exact⟨_,_,hd.symm⟩
 | 1,_=>injection hd with hd;exact⟨_,_,hd.symm⟩
 | 2,_=>injection hd with hd;exact⟨_,_,hd.symm⟩
 | 3,_=>injection hd with hd;exact⟨_,_,hd.symm⟩
 | 4,_=>injection hd with hd;exact⟨_,_,hd.symm⟩
 | 5,_=>injection hd with hd;exact⟨_,_,hd.symm⟩
 | 6,_=>injection hd with hd;exact⟨_,_,hd.symm⟩
 | 7,_=>injection hd with hd;exact⟨_,_,hd.symm⟩
 | 8,_=>injection hd with hd;exact⟨_,_,hd.symm⟩
theorem zfP {s e:Mem} {ρ:Nat→Option Nat} {CS:List D} (h:∀ (j:Nat) d,CS[j]? = some d→∃ n x,d = .dat n x):zdt s e ρ CS CS :=
 zbf rfl fun j d d' h1 h2=>by
  rw[h1]at h2
  injection h2 with h2
  subst h2
  obtain⟨n,x,rfl⟩:=h j d h1
  exact⟨n,rfl,.inl rfl⟩
attribute [local irreducible] SStep DW DWin DOps zaG zaE zaJ retQ zaN FnF FnG FnI FnM Wk IntKind.wrap IntKind.andI IntKind.orI IntKind.xorI IntKind.andNotI IntKind.shlI IntKind.shrI miCS
set_option maxHeartbeats 4000000 in
theorem zk3 (n:Net) (h:n.good) (t:List (List Mind)) (ht:goodT n t):FnF Tryz.prog 54 [zaO t] (zaO t):=by
 refine zal Tryz.func54 rfl rfl rfl ?_
 simp only[zap,zaO]
 have hmt:(t.map zae).length=t.length:=by simp
 have hnb:=h.nb
 have htl:=ht.l
 repeat' (first|refine qU ?_|refine qW ?_|((first|apply dX rfl|apply Da rfl rfl|apply Db rfl rfl qN);(focus ((try intro hg);first|exact qMo));constructor)|refine qP ?_)
 refine zag (fun k:Nat=>⟨[(1,.ptr 1 0),(2,.ptr 2 0),(3,.ptr 3 0),(10,.dat false (.slice (t.map zae))),(11,.dat true (.int .i64 (t.map zae).length)),(12,.dat true (.int .i64 k))],
   [(1,.cells false true [.dat false (.slice (t.map zae))]),(2,.cells false true [.nil]),(3,.cells false true [.own 51 k 0 (t.take k).length]),(51,.row k false true 1 ((t.take k).map zae))],55⟩)
  (fun k=>k≤t.length) (fun k=>t.length-k) 0 (Nat.zero_le _)
  (Wk_g (fun g=>if g=51 then none else some g) rfl rfl kq) (fun k hk=>?_)
 by_cases hlt:k<t.length
 ·have hx:t[(k:Int).toNat]? = some t[k]:=by simp[hlt]
  have hst:t.take (k+1)=t.take k++[t[k]]:=by rw[List.take_add_one,List.getElem?_eq_getElem hlt];rfl
  have htk:(t.take k).length=k:=by rw[List.length_take];omega
  obtain⟨hl,hm⟩:=ht.m t[k] (List.getElem_mem hlt)
  generalize t[k]=l at hx hst hl hm
  generalize t.take k=us at hst htk
  have hcl:=zk2 l (by omega)
  by_cases hl0:l=[]
  ·subst hl0
   repeat' (first|refine zcY 49 (bx := .row 1 false false 9 (([]:List Mind).map Mind.cells)) rfl ?_|refine qU ?_|refine qW ?_|(apply dt rfl;case h=>first|exact zaB 49 hcl rfl rfl (.own _ _))|((first|apply dX rfl|apply Da rfl rfl|apply Db rfl rfl qN);(focus ((try intro hg);first|exact zaf rfl rfl (by omega) hx|exact zaB 49 hcl rfl rfl (.own _ _)|exact qMo));constructor)|refine qP ?_)
   intro _
   repeat' (first|refine qU ?_|refine qW ?_|((first|apply dX rfl|apply Da rfl rfl|apply Db rfl rfl qN);(focus ((try intro hg);first|exact qMo));constructor)|refine qP ?_)
   refine zag (fun _:Unit=>⟨[(1,.ptr 1 0),(2,.ptr 2 0),(3,.ptr 3 0),(10,.dat false (.slice (t.map zae))),(11,.dat true (.int .i64 (t.map zae).length)),(12,.dat true (.int .i64 k)),(6,.own 49 0 0 0),(19,.dat true (.int .i64 0)),(20,.dat true (.int .i64 0))],[(1,.cells false true [.dat false (.slice (t.map zae))]),(2,.cells false true [.nil]),(3,.cells false true [.own 51 k 0 us.length]),(51,.row k false true 1 (us.map zae)),(49,.row 0 false false 9 (([]:List Mind).map Mind.cells))],55⟩)
    (fun _=>True) (fun _=>0) () trivial (Wk_g some rfl rfl kqp) (fun _ _=>?_)
   refine zaD 49 (fun _ _ _ h=>by cases h) ?_
   refine zi9 6 (.dat true (.slice (([]:List Mind).map Mind.cells))) (fun C v hm hd=>RdF.flat (zcF hm (fun _ _=>rfl) (show asV _ (.own 49 0 0 0)=some (false,.slice [])from rfl) hd) .nil) ?_
   repeat' (first|refine qU ?_|refine qW ?_|((first|apply dX rfl|apply Da rfl rfl|apply Db rfl rfl qN);(focus ((try intro hg);first|exact zan (f:=zae) (us:=us) (bs := [[]]) rfl rfl (.dat _ _) rfl rfl (.inl rfl) rfl (by simp only[List.length_singleton];omega)|exact qMo));constructor)|refine qP ?_)
   refine zaa (k+1) hlt (by omega) ?_
   rw[hst]
   exact Wk_g some rfl rfl kqp
  ·repeat' (first|refine zcY 49 (bx := .row 1 false false 9 (l.map Mind.cells)) rfl ?_|refine qU ?_|refine qW ?_|(apply dt rfl;case h=>first|exact zaB 49 hcl rfl rfl (.own _ _))|((first|apply dX rfl|apply Da rfl rfl|apply Db rfl rfl qN);(focus ((try intro hg);first|exact zaf rfl rfl (by omega) hx|exact zaB 49 hcl rfl rfl (.own _ _)|exact qMo));constructor)|refine qP ?_)
   intro _
   refine zeY 49 rfl (by decide) (by simpa using hl0) ?_
   rw[zpU]
   refine zaZ (s':=⟨[(1,.ptr 1 0),(2,.ptr 2 0),(3,.ptr 3 0),(10,.dat false (.slice (t.map zae))),(11,.dat true (.int .i64 (t.map zae).length)),(12,.dat true (.int .i64 k)),(6,.sl 49 l.length)],[(1,.cells false true [.dat false (.slice (t.map zae))]),(2,.cells false true [.nil]),(3,.cells false true [.own 51 k 0 us.length]),(51,.row k false true 1 (us.map zae)),(49,.cells false true (miCS 0 l))],55⟩) (Wk_g some rfl rfl ⟨⟨⟨_,_,rfl,rfl,by(repeat' (first|exact zdg rfl rfl rfl|exact trivial|rfl|exact zas _|exact⟨_,rfl,.inl rfl⟩|exact⟨_,rfl,.inr (.inl rfl)⟩|exact⟨_,rfl,.inr (.inr rfl)⟩|refine⟨_,_,rfl,rfl,?_⟩|exact⟨_,rfl,rfl⟩|exact⟨_,_,_,_,rfl,rfl,rfl⟩|exact⟨_,rfl⟩|exact⟨_,_,rfl⟩|apply And.intro))⟩,⟨_,_,rfl,rfl,by(repeat' (first|exact zdg rfl rfl rfl|exact trivial|rfl|exact zas _|exact⟨_,rfl,.inl rfl⟩|exact⟨_,rfl,.inr (.inl rfl)⟩|exact⟨_,rfl,.inr (.inr rfl)⟩|refine⟨_,_,rfl,rfl,?_⟩|exact⟨_,rfl,rfl⟩|exact⟨_,_,_,_,rfl,rfl,rfl⟩|exact⟨_,rfl⟩|exact⟨_,_,rfl⟩|apply And.intro))⟩,⟨_,_,rfl,rfl,by(repeat' (first|exact zdg rfl rfl rfl|exact trivial|rfl|exact zas _|exact⟨_,rfl,.inl rfl⟩|exact⟨_,rfl,.inr (.inl rfl)⟩|exact⟨_,rfl,.inr (.inr rfl)⟩|refine⟨_,_,rfl,rfl,?_⟩|exact⟨_,rfl,rfl⟩|exact⟨_,_,_,_,rfl,rfl,rfl⟩|exact⟨_,rfl⟩|exact⟨_,_,rfl⟩|apply And.intro))⟩,⟨_,rfl⟩,⟨_,_,rfl,rfl,zfP (zjE 0 l)⟩,trivial⟩,by(repeat' (first|exact zdg rfl rfl rfl|exact trivial|rfl|exact zas _|exact⟨_,rfl,.inl rfl⟩|exact⟨_,rfl,.inr (.inl rfl)⟩|exact⟨_,rfl,.inr (.inr rfl)⟩|refine⟨_,_,rfl,rfl,?_⟩|exact⟨_,rfl,rfl⟩|exact⟨_,_,_,_,rfl,rfl,rfl⟩|exact⟨_,rfl⟩|exact⟨_,_,rfl⟩|apply And.intro))⟩) ?_
   repeat' (first|refine qU ?_|((first|apply dX rfl|apply Da rfl rfl|apply Db rfl rfl qN);(focus ((try intro hg);first|exact zbQ rfl|exact qM));constructor)|refine qP ?_)
   refine zag (fun i:Nat=>⟨[(1,.ptr 1 0),(2,.ptr 2 0),(3,.ptr 3 0),(10,.dat false (.slice (t.map zae))),(11,.dat true (.int .i64 (t.map zae).length)),(12,.dat true (.int .i64 k)),(6,.sl 49 l.length),(18,.sl 49 l.length),(19,.dat true (.int .i64 l.length)),(20,.dat true (.int .i64 i))],[(1,.cells false true [.dat false (.slice (t.map zae))]),(2,.cells false true [.nil]),(3,.cells false true [.own 51 k 0 us.length]),(51,.row k false true 1 (us.map zae)),(49,.cells false true (miCS i l))],55⟩)
    (fun i=>i≤l.length) (fun i=>l.length-i) 0 (Nat.zero_le _)
    (Wk_g some rfl rfl ⟨⟨⟨_,_,rfl,rfl,by(repeat' (first|exact zdg rfl rfl rfl|exact trivial|rfl|exact zas _|exact⟨_,rfl,.inl rfl⟩|exact⟨_,rfl,.inr (.inl rfl)⟩|exact⟨_,rfl,.inr (.inr rfl)⟩|refine⟨_,_,rfl,rfl,?_⟩|exact⟨_,rfl,rfl⟩|exact⟨_,_,_,_,rfl,rfl,rfl⟩|exact⟨_,rfl⟩|exact⟨_,_,rfl⟩|apply And.intro))⟩,⟨_,_,rfl,rfl,by(repeat' (first|exact zdg rfl rfl rfl|exact trivial|rfl|exact zas _|exact⟨_,rfl,.inl rfl⟩|exact⟨_,rfl,.inr (.inl rfl)⟩|exact⟨_,rfl,.inr (.inr rfl)⟩|refine⟨_,_,rfl,rfl,?_⟩|exact⟨_,rfl,rfl⟩|exact⟨_,_,_,_,rfl,rfl,rfl⟩|exact⟨_,rfl⟩|exact⟨_,_,rfl⟩|apply And.intro))⟩,⟨_,_,rfl,rfl,by(repeat' (first|exact zdg rfl rfl rfl|exact trivial|rfl|exact zas _|exact⟨_,rfl,.inl rfl⟩|exact⟨_,rfl,.inr (.inl rfl)⟩|exact⟨_,rfl,.inr (.inr rfl)⟩|refine⟨_,_,rfl,rfl,?_⟩|exact⟨_,rfl,rfl⟩|exact⟨_,_,_,_,rfl,rfl,rfl⟩|exact⟨_,rfl⟩|exact⟨_,_,rfl⟩|apply And.intro))⟩,⟨_,rfl⟩,⟨_,_,rfl,rfl,zfP (zjE 0 l)⟩,trivial⟩,by(repeat' (first|exact zdg rfl rfl rfl|exact trivial|rfl|exact zas _|exact⟨_,rfl,.inl rfl⟩|exact⟨_,rfl,.inr (.inl rfl)⟩|exact⟨_,rfl,.inr (.inr rfl)⟩|refine⟨_,_,rfl,rfl,?_⟩|exact⟨_,rfl,rfl⟩|exact⟨_,_,_,_,rfl,rfl,rfl⟩|exact⟨_,rfl⟩|exact⟨_,_,rfl⟩|apply And.intro))⟩) (fun i hi=>?_)
   by_cases hli:i<l.length
   ·have hy:l[i]? = some l[i]:=by simp[hli]
    have hgm:=hm i l[i] hy
    have htk':=zpV (k:=i) hy
    rw[decide_eq_false (Nat.lt_irrefl i)]at htk'
    have hs3:=zpW hy
    have hbl:=zjD i l
    generalize l[i]=m at hy hgm htk' hs3
    have hc1:=zeZ m.ports (by rw[hgm.p];have:=zbz n.links i;rw[zaW];unfold zcj;rw[List.length_mergeSort];have:=h.nl;omega)
    have hc2:=zeZ m.roles (by rw[hgm.r];have:=zbz n.links i;rw[zaW];unfold zcj;rw[List.length_mergeSort];have:=h.nl;omega)
    have hc3:=zeZ m.calm (by rw[hgm.c];have:=zbz n.links i;rw[zaW];unfold zcj;rw[List.length_mergeSort];have:=h.nl;omega)
    have b1:Nat.ble (((i:Nat):Int).toNat*9+6+1) (miCS i l).length=true:=Nat.ble_eq_true_of_le (by rw[hbl,Int.toNat_natCast];omega)
    have s1:splice (miCS i l) (((i:Nat):Int).toNat*9+6) [.dat true (.slice (m.ports.map zad))]=(miCS i l).set (i*9+6) (.dat true (.slice (m.ports.map zad))):=by
     rw[Int.toNat_natCast];exact zb0 (by rw[hbl];omega)
    have b2:Nat.ble (((i:Nat):Int).toNat*9+7+1) (splice (miCS i l) (((i:Nat):Int).toNat*9+6) [.dat true (.slice (m.ports.map zad))]).length=true:=Nat.ble_eq_true_of_le (by rw[s1,List.length_set,hbl,Int.toNat_natCast];omega)
    have s2:splice (splice (miCS i l) (((i:Nat):Int).toNat*9+6) [.dat true (.slice (m.ports.map zad))]) (((i:Nat):Int).toNat*9+7) [.dat true (.slice (m.roles.map zad))]=((miCS i l).set (i*9+6) (.dat true (.slice (m.ports.map zad)))).set (i*9+7) (.dat true (.slice (m.roles.map zad))):=by
     rw[s1,Int.toNat_natCast];exact zb0 (by rw[List.length_set,hbl];omega)
    have b3:Nat.ble (((i:Nat):Int).toNat*9+8+1) (splice (splice (miCS i l) (((i:Nat):Int).toNat*9+6) [.dat true (.slice (m.ports.map zad))]) (((i:Nat):Int).toNat*9+7) [.dat true (.slice (m.roles.map zad))]).length=true:=Nat.ble_eq_true_of_le (by rw[s2,List.length_set,List.length_set,hbl,Int.toNat_natCast];omega)
    have s3:splice (splice (splice (miCS i l) (((i:Nat):Int).toNat*9+6) [.dat true (.slice (m.ports.map zad))]) (((i:Nat):Int).toNat*9+7) [.dat true (.slice (m.roles.map zad))]) (((i:Nat):Int).toNat*9+8) [.dat true (.slice (m.calm.map zad))]=miCS (i+1) l:=by
     rw[s2,Int.toNat_natCast,←hs3];exact zb0 (by rw[List.length_set,List.length_set,hbl];omega)
    repeat' (first|refine qU ?_|refine qW ?_|((first|apply dX rfl|apply Da rfl rfl|apply Db rfl rfl qN);(focus ((try intro hg);first|exact zdE rfl rfl (by omega) (by omega)|exact zpK rfl rfl htk' (by rw[hbl];simp only[Int.toNat_natCast];omega)|exact zac hc1 rfl|exact zac hc2 rfl|exact zac hc3 rfl|exact zbg rfl rfl rfl rfl rfl b1|exact zbg rfl rfl rfl rfl rfl b2|exact zbg rfl rfl rfl rfl rfl b3|exact qMo));constructor)|refine qP ?_)
    refine zaa (i+1) hli (by omega) ?_
    rw[s3]
    exact(Wk_g some rfl rfl ⟨⟨⟨_,_,rfl,rfl,by(repeat' (first|exact zdg rfl rfl rfl|exact trivial|rfl|exact zas _|exact⟨_,rfl,.inl rfl⟩|exact⟨_,rfl,.inr (.inl rfl)⟩|exact⟨_,rfl,.inr (.inr rfl)⟩|refine⟨_,_,rfl,rfl,?_⟩|exact⟨_,rfl,rfl⟩|exact⟨_,_,_,_,rfl,rfl,rfl⟩|exact⟨_,rfl⟩|exact⟨_,_,rfl⟩|apply And.intro))⟩,⟨_,_,rfl,rfl,by(repeat' (first|exact zdg rfl rfl rfl|exact trivial|rfl|exact zas _|exact⟨_,rfl,.inl rfl⟩|exact⟨_,rfl,.inr (.inl rfl)⟩|exact⟨_,rfl,.inr (.inr rfl)⟩|refine⟨_,_,rfl,rfl,?_⟩|exact⟨_,rfl,rfl⟩|exact⟨_,_,_,_,rfl,rfl,rfl⟩|exact⟨_,rfl⟩|exact⟨_,_,rfl⟩|apply And.intro))⟩,⟨_,_,rfl,rfl,by(repeat' (first|exact zdg rfl rfl rfl|exact trivial|rfl|exact zas _|exact⟨_,rfl,.inl rfl⟩|exact⟨_,rfl,.inr (.inl rfl)⟩|exact⟨_,rfl,.inr (.inr rfl)⟩|refine⟨_,_,rfl,rfl,?_⟩|exact⟨_,rfl,rfl⟩|exact⟨_,_,_,_,rfl,rfl,rfl⟩|exact⟨_,rfl⟩|exact⟨_,_,rfl⟩|apply And.intro))⟩,⟨_,rfl⟩,⟨_,_,rfl,rfl,zfP (zjE _ l)⟩,trivial⟩,by(repeat' (first|exact zdg rfl rfl rfl|exact trivial|rfl|exact zas _|exact⟨_,rfl,.inl rfl⟩|exact⟨_,rfl,.inr (.inl rfl)⟩|exact⟨_,rfl,.inr (.inr rfl)⟩|refine⟨_,_,rfl,rfl,?_⟩|exact⟨_,rfl,rfl⟩|exact⟨_,_,_,_,rfl,rfl,rfl⟩|exact⟨_,rfl⟩|exact⟨_,_,rfl⟩|apply And.intro))⟩)
   ·have he:i=l.length:=by omega
    subst he
    refine zaD 49 (fun _ _ _ h=>by cases h) ?_
    refine zi9 6 (.dat true (.slice (l.map Mind.cells))) (fun C v hm hd=>zrG hm rfl hd) ?_
    repeat' (first|refine qU ?_|refine qW ?_|((first|apply dX rfl|apply Da rfl rfl|apply Db rfl rfl qN);(focus ((try intro hg);first|exact zan (f:=zae) (us:=us) (bs := [l]) rfl rfl (.dat _ _) rfl rfl (.inl rfl) rfl (by simp only[List.length_singleton];omega)|exact qMo));constructor)|refine qP ?_)
    refine zaa (k+1) hlt (by omega) ?_
    rw[hst]
    exact Wk_g some rfl rfl kqp
 ·have he:t.take k=t:=List.take_of_length_le (by omega)
  rw[he]
  refine zaZ (s':=⟨[(2,.ptr 2 0),(3,.ptr 3 0),(11,.dat true (.int .i64 (t.map zae).length)),(12,.dat true (.int .i64 k))],
   [(2,.cells false true [.nil]),(3,.cells false true [.own 51 0 0 t.length]),(51,.row 0 false true 1 (t.map zae))],55⟩) (Wk_g some rfl rfl kqp) ?_
  refine zaD 51 (fun _ _ _ h=>by cases h) ?_
  repeat' (first|refine qU ?_|refine qW ?_|((first|apply dX rfl|apply Da rfl rfl|apply Db rfl rfl qN);(focus ((try intro hg);first|exact qMo));constructor)|refine qP ?_)
  refine retN (.cellA inferInstance rfl rfl rfl rfl qF .nil) ?_
  show V.agg [V.slice (List.take _ (List.drop 0 _))]=_
  rw[List.drop_zero,List.take_of_length_le (by simp)]
end Go.Proofs.YtcdhlofhhcgohaaGreat
