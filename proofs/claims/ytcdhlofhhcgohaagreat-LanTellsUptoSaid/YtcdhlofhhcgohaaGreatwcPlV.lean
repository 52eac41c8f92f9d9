/- A net told the other way round: mathematics. -/
import Derived.Test.YtcdhlofhhcgohaaGreatwdTlw
import Derived.Test.YtcdhlofhhcgohaaGreatwcPlO
import Derived.Test.YtcdhlofhhcgohaaGreatwdPlN
import Derived.Test.YtcdhlofhhcgohaaGreatwbMap
import Derived.Test.YtcdhlofhhcgohaaGreatwbNst
namespace Go.Proofs.YtcdhlofhhcgohaaGreat
open Go.RowKit
theorem zdl (n:Net) (trees:Int):((zbN n trees).2.1≠0∧(zbN n trees).1=[])∨(n.wrong.1=0∧1≤trees∧trees≤4∧zbN n trees=(start0 n trees.toNat,(0,0))):=by
 unfold zbN
 by_cases h0:n.wrong.1≠0
 ·rw[if_pos h0];exact .inl ⟨h0,rfl⟩
 ·rw[if_neg h0]
  by_cases h1:trees<1∨4<trees
  ·rw[if_pos h1];exact .inl ⟨by decide,rfl⟩
  ·rw[if_neg h1];exact .inr ⟨Decidable.not_not.1 h0,by omega,by omega,rfl⟩
theorem zhx {n:Net} (ht:n.typed) (trees:Int) (l:List Doing):(∃ f,zdS n trees l=(none,f)∧f.1≠0)∨(n.good∧n.wrong.1=0∧1≤trees∧trees≤4∧l.length≤30∧∃ r,zaX 0 l n (start0 n trees.toNat)=(some r,(0,0))∧zdS n trees l=(some r,(0,0))):=by
 unfold zdS
 rcases zdl n trees with⟨h1,_⟩|⟨h0,h1,h2,he⟩
 ·rw[if_pos h1];exact .inl ⟨_,rfl,h1⟩
 ·rw [he]
  simp only[ne_eq,not_true_eq_false,if_false]
  unfold onA
  rw[if_neg (by omega)]
  by_cases hl:30<l.length
  ·rw[if_pos hl];exact .inl ⟨_,rfl,by decide⟩
  ·rw[if_neg hl]
   have hg:=((Net.wrong_iff ht).1 h0).1
   have key:=zc4 l 0 n (start0 n trees.toNat) hg (zc3 (by omega))
   have bad:=zfE l 0 n (start0 n trees.toNat)
   generalize zaX 0 l n (start0 n trees.toNat)=r at key bad
   obtain⟨r,f⟩:=r
   cases r with
   | none=>exact .inl ⟨f,rfl,bad rfl⟩
   | some r =>
    have:=(key r rfl).2.2.2.2
    simp only at this
    subst this
    exact .inr ⟨hg,h0,h1,h2,by omega,r,rfl,rfl⟩
theorem zhy {n m:Net} (ht:n.typed) (k:Kin n m):m.typed where
 ad b hb:=by
  obtain⟨i,hi,hx⟩:=List.mem_iff_getElem.1 hb
  have e:(m.bridges.map keyB)[i]? = some (keyB b):=by rw[List.getElem?_map,List.getElem?_eq_getElem hi,hx];rfl
  rw[k.br,List.getElem?_map]at e
  obtain⟨c,hc,he⟩:=Option.map_eq_some_iff.1 e
  have:=ht.ad c (List.mem_of_getElem? hc)
  unfold keyB at he
  injection he with he1 he2
  omega
 wy b hb:=by
  obtain⟨i,hi,hx⟩:=List.mem_iff_getElem.1 hb
  have e:(m.bridges.map keyB)[i]? = some (keyB b):=by rw[List.getElem?_map,List.getElem?_eq_getElem hi,hx];rfl
  rw[k.br,List.getElem?_map]at e
  obtain⟨c,hc,he⟩:=Option.map_eq_some_iff.1 e
  have:=ht.wy c (List.mem_of_getElem? hc)
  unfold keyB at he
  injection he with he1 he2
  rw[←he2];exact this
theorem zp6 {n m:Net} (ht:n.typed) (h0:n.wrong.1=0) (k:Kin n m) (hg:m.good):m.wrong.1=0:=by
 refine(Net.wrong_iff (zhy ht k)).2 ⟨hg,fun b hb=>?_⟩
 obtain⟨i,hi,hx⟩:=List.mem_iff_getElem.1 hb
 have e:(m.bridges.map keyB)[i]? = some (keyB b):=by rw[List.getElem?_map,List.getElem?_eq_getElem hi,hx];rfl
 rw[k.br,List.getElem?_map]at e
 obtain⟨c,hc,he⟩:=Option.map_eq_some_iff.1 e
 have:=((Net.wrong_iff ht).1 h0).2 c (List.mem_of_getElem? hc)
 unfold keyB at he
 injection he with he1 he2
 rw[←he2];exact this
attribute [local irreducible] SStep DW DWin DOps zaG zaE zaJ retQ zaN FnF FnG FnI FnM Wk IntKind.wrap IntKind.andI IntKind.orI IntKind.xorI IntKind.andNotI IntKind.shlI IntKind.shrI Net.wrong onA zbN
set_option maxHeartbeats 4000000 in
theorem zp7 (n:Net) (ht:n.typed) (trees:Int) (l:List Doing):FnF Tryz.prog 15 [n.v,.int .i64 trees,.slice (l.map Doing.cells)] (onV (zdS n trees l)):=by
 refine zal Tryz.func15 rfl rfl rfl ?_
 simp only[zap]
 have hs:=ziy n ht trees
 unfold zdS
 rcases zdl n trees with⟨h1,h2⟩|⟨h0,h1,h2,he⟩
 ·rw[if_pos h1]
  rw[h2]at hs
  generalize (zbN n trees).2=f at hs h1 ⊢
  obtain⟨e,i⟩:=f
  simp only at h1
  repeat' (first|refine qU ?_|refine qW ?_|((first|apply dX rfl|apply Da rfl rfl|apply Db rfl rfl qN);(focus ((try intro hg);first|exact zac hs rfl|exact qMo));constructor)|refine qP ?_)
  refine retN (.cellA inferInstance rfl rfl rfl rfl qF (.cellA inferInstance rfl rfl rfl rfl qF (.cellA inferInstance rfl rfl rfl rfl qF .nil))) ?_
  rfl
 ·rw[he]at hs ⊢
  have hon:=zhv n ht (start0 n trees.toNat) (fun _=>⟨zc3 (by omega),by simp[start0];omega⟩) l
  simp only at hs
  simp only[ne_eq,not_true_eq_false,if_false]
  generalize onA n (start0 n trees.toNat) l=r at hon ⊢
  obtain⟨o,f⟩:=r
  cases o with
  | none =>
   repeat' (first|refine qU ?_|refine qW ?_|((first|apply dX rfl|apply Da rfl rfl|apply Db rfl rfl qN);(focus ((try intro hg);first|exact zac hs rfl|exact zac hon rfl|exact qMo));constructor)|refine qP ?_)
   refine retN (.cellA inferInstance rfl rfl rfl rfl qF (.cellA inferInstance rfl rfl rfl rfl qF (.cellA inferInstance rfl rfl rfl rfl qF .nil))) ?_
   rfl
  | some p =>
   repeat' (first|refine qU ?_|refine qW ?_|((first|apply dX rfl|apply Da rfl rfl|apply Db rfl rfl qN);(focus ((try intro hg);first|exact zac hs rfl|exact zac hon rfl|exact qMo));constructor)|refine qP ?_)
   refine retN (.cellA inferInstance rfl rfl rfl rfl qF (.cellA inferInstance rfl rfl rfl rfl qF (.cellA inferInstance rfl rfl rfl rfl qF .nil))) ?_
   rfl
end Go.Proofs.YtcdhlofhhcgohaaGreat
namespace Go.Proofs.YtcdhlofhhcgohaaGreat
open Go.RowKit
attribute [local irreducible] SStep DW DWin DOps zaG zaE zaJ retQ zaN FnF FnG FnI Wk IntKind.wrap IntKind.andI IntKind.orI IntKind.xorI IntKind.andNotI IntKind.shlI IntKind.shrI Net.wrong Bridge.id Bridge.prio zb3 idsR zdQ mix
set_option maxHeartbeats 4000000 in
theorem zp8 (n:Net) (h:n.good):FnF Tryz.prog 33 [n.v] (.slice ((za3 n).map zar)):=by
 refine zal Tryz.func33 rfl rfl rfl ?_
 simp only[zap]
 have hmb:(n.bridges.map zaj).length=n.bridges.length:=by simp
 have hml:(n.links.map zar).length=n.links.length:=by simp
 have hnb:=h.nb
 have hnl:=h.nl
 obtain⟨nb,hnbe⟩:∃ nb,nb=n.bridges.length:=⟨_,rfl⟩
 rw[←hnbe]at hnb hmb
 repeat' (first|(apply dt rfl;case h=>exact ziX (f:=zbe) (l:=nb) (c:=nb) [] _ rfl rfl (by rw[hmb]) (by rw[hmb]) (Nat.le_refl _) (by omega) rfl rfl)|refine qU ?_|((first|apply dX rfl|apply Da rfl rfl|apply Db rfl rfl qN);(focus ((try intro hg);first|exact qM));constructor)|refine qP ?_)
 have hil:(idsR n.bridges).length=(List.replicate nb ([]:List UInt8)).length:=by unfold idsR;simp[hnbe]
 refine zag (fun k:Nat=>⟨[(1,.ptr 1 0),(3,.nil),(4,.own 12 0 0 nb),(14,.dat false (.slice (n.bridges.map zaj))),(15,.dat true (.int .i64 (n.bridges.map zaj).length)),(16,.dat true (.int .i64 k))],
   [(1,.cells false true (n.cells.map (.dat false))),(12,.row 0 false true 1 ((mix (idsR n.bridges) (List.replicate nb []) k).map zbe))],56⟩)
  (fun k=>k≤nb) (fun k=>nb-k) 0 (Nat.zero_le _)
  (by rw[zgo];exact Wk_g some rfl rfl kq) (fun k hk=>?_)
 by_cases hlt:k<nb
 ·have hx:n.bridges[(k:Int).toNat]? = some (n.bridges[k]'(by omega)):=by simp[show k<n.bridges.length by omega]
  have hbo:=h.br (n.bridges[k]'(by omega)) (List.getElem_mem _)
  have hs0:(idsR n.bridges)[k]? = some (zb3 (n.bridges[k]'(by omega)).region):=by unfold idsR;simp[show k<n.bridges.length by omega]
  generalize n.bridges[k]'(by omega)=b at hx hbo hs0
  have hid:=znm b.region hbo.r
  have hset:=zjf hil hs0
  have hu:(mix (idsR n.bridges) (List.replicate nb []) k)[(k:Int).toNat]? = some []:=by rw[Int.toNat_natCast,zje hil];simp[hlt]
  repeat' (first|refine qU ?_|refine qW ?_|((first|apply dX rfl|apply Da rfl rfl|apply Db rfl rfl qN);(focus ((try intro hg);first|exact zaf rfl rfl (by omega) hx|exact zac hid rfl|exact zc7 rfl rfl rfl (by omega) (by omega)|exact zba (f:=zbe) (a:=zb3 b.region) rfl rfl hu rfl rfl (.inl rfl) rfl rfl|exact qM));constructor)|refine qP ?_)
  refine zaa (k+1) hlt (by omega) ?_
  rw[←hset]
  exact(Wk_g some rfl rfl kq)
 ·rw [zjd hil (by simp;omega)]
  have hil2:(idsR n.bridges).length=nb:=by rw[hil];simp
  refine zaR 4 rfl rfl (by rw[List.length_map,hil2]) ?_
  repeat' (first|refine qU ?_|refine qW ?_|((first|apply dX rfl|apply Da rfl rfl|apply Db rfl rfl qN);(focus ((try intro hg);first|exact qM));constructor)|refine qP ?_)
  refine zag (fun p:Nat×List Link=>⟨[(3,.own 3 0 0 p.2.length),(4,.dat true (.slice ((idsR n.bridges).map zbe))),(29,.dat false (.slice (n.links.map zar))),(30,.dat true (.int .i64 (n.links.map zar).length)),(31,.dat true (.int .i64 p.1))],
    [(3,.row 0 false true 6 (p.2.map zar))],56⟩)
   (fun p=>p.1≤n.links.length∧p.2=(n.links.take p.1).filter (zdQ n.bridges)) (fun p=>n.links.length-p.1) (0,[]) ⟨Nat.zero_le _,rfl⟩
   (Wk_g (fun g=>if g=3 then none else some g) rfl rfl kq) (fun p hR=>?_)
  obtain⟨k2,us⟩:=p
  obtain⟨hk2,hus⟩:=hR
  simp only at hk2 hus
  dsimp only
  have hul:us.length≤40:=by
   rw[hus]
   have:=zo8 n k2
   omega
  by_cases hlt2:k2<n.links.length
  ·have hx:n.links[(k2:Int).toNat]? = some n.links[k2]:=by simp[hlt2]
   have hl:=h.lk n.links[k2] (List.getElem_mem hlt2)
   have hst:=zks (bs:=n.bridges) (show n.links[k2]? = some n.links[k2] by simp[hlt2])
   rw[←hus]at hst
   generalize n.links[k2]=l at hx hl hst
   have ha0:=hl.a0
   have hb0:=hl.b0
   have hxa:(idsR n.bridges)[l.a.toNat]? = some ((idsR n.bridges)[l.a.toNat]'(by have:=hl.a1;omega)):=List.getElem?_eq_getElem _
   have hxb:(idsR n.bridges)[l.b.toNat]? = some ((idsR n.bridges)[l.b.toNat]'(by have:=hl.b1;omega)):=List.getElem?_eq_getElem _
   generalize (idsR n.bridges)[l.a.toNat]'(by have:=hl.a1;omega)=ra at hxa
   generalize (idsR n.bridges)[l.b.toNat]'(by have:=hl.b1;omega)=rb at hxb
   have hbe:=znj ra rb
   have hlv:zdQ n.bridges l=(l.up && decide (ra=rb)):=by with_unfolding_all (unfold zdQ;rw[hxa,hxb];simp)
   rw[hlv]at hst
   obtain⟨a,pa,b,pb,cost,up⟩:=l
   cases up with
   | false =>
    simp only[Bool.false_and,Bool.false_eq_true,if_false,List.append_nil]at hst
    repeat' (first|refine qU ?_|refine qW ?_|((first|apply dX rfl|apply Da rfl rfl|apply Db rfl rfl qN);(focus ((try intro hg);first|exact zaf rfl rfl (by omega) hx|exact qM));constructor)|refine qP ?_)
    exact zaa (k2+1,us) ⟨hlt2,hst.symm⟩ (by simp only;omega) (Wk_g some rfl rfl kq)
   | true =>
    by_cases hr:ra=rb
    ·rw[decide_eq_true hr]at hst hbe
     simp only[Bool.true_and,if_true]at hst
     repeat' (first|refine qU ?_|refine qW ?_|((first|apply dX rfl|apply Da rfl rfl|apply Db rfl rfl qN);(focus ((try intro hg);first|exact zaf rfl rfl (by omega) hx|exact zaf (f:=zbe) rfl rfl ha0 hxa|exact zaf (f:=zbe) rfl rfl hb0 hxb|exact zac hbe rfl|exact zan (f:=zar) (us:=us) (bs := [(⟨a,pa,b,pb,cost,true⟩:Link)]) rfl rfl (.dat _ _) rfl rfl (.inr ⟨rfl,inferInstance⟩) rfl (by simp only[List.length_singleton];omega)|exact qM));constructor)|refine qP ?_)
     exact zaa (k2+1,us++[⟨a,pa,b,pb,cost,true⟩]) ⟨hlt2,hst.symm⟩ (by simp only;omega) (Wk_g some rfl rfl kq)
    ·rw[decide_eq_false hr]at hst hbe
     simp only[Bool.true_and,Bool.false_eq_true,if_false,List.append_nil]at hst
     repeat' (first|refine qU ?_|refine qW ?_|((first|apply dX rfl|apply Da rfl rfl|apply Db rfl rfl qN);(focus ((try intro hg);first|exact zaf rfl rfl (by omega) hx|exact zaf (f:=zbe) rfl rfl ha0 hxa|exact zaf (f:=zbe) rfl rfl hb0 hxb|exact zac hbe rfl|exact qM));constructor)|refine qP ?_)
     exact zaa (k2+1,us) ⟨hlt2,hst.symm⟩ (by simp only;omega) (Wk_g some rfl rfl kq)
  ·have he:us=za3 n:=by rw[hus,List.take_of_length_le (by omega)];rfl
   refine zaR 3 rfl rfl (by simp) ?_
   repeat' (first|refine qU ?_|refine qW ?_|((first|apply dX rfl|apply Da rfl rfl|apply Db rfl rfl qN);(focus ((try intro hg);first|exact qM));constructor)|refine qP ?_)
   refine ret1 rfl qF ?_
   rw[←he]
end Go.Proofs.YtcdhlofhhcgohaaGreat
namespace Go.Proofs.YtcdhlofhhcgohaaGreat
open Go.RowKit
attribute [local irreducible] SStep DW DWin DOps zaG zaE zaJ retQ zaN FnF FnG FnI Wk IntKind.wrap IntKind.andI IntKind.orI IntKind.xorI IntKind.andNotI IntKind.shlI IntKind.shrI zcl hitL
theorem zp9 (b p:Int) (l:Link):hitL b p l=((decide (l.a=b) && decide (l.pa=p)) || (decide (l.b=b) && decide (l.pb=p))):=by with_unfolding_all rfl
theorem zrN {b p:Int} {ls:List Link} {k:Nat} {l:Link} (h:ls[k]? = some l):((ls.take (k+1)).filter (hitL b p)).map (fun _=>p)=((ls.take k).filter (hitL b p)).map (fun _=>p)++(if hitL b p l=true then [p]else []):=by
 rw[List.take_add_one,h,List.filter_append,List.map_append]
 congr 1
 simp only[Option.toList_some,List.filter_cons,List.filter_nil]
 split<;>rfl
set_option maxHeartbeats 4000000 in
theorem zes (n:Net) (h:n.good) (b:Int):FnF Tryz.prog 42 [n.v,.int .i64 b] (.slice ((zah n.links b).map zad)):=by
 refine zal Tryz.func42 rfl rfl rfl ?_
 simp only[zap]
 have hml:(n.links.map zar).length=n.links.length:=by simp
 have hnl:=h.nl
 repeat' (first|refine qU ?_|((first|apply dX rfl|apply Da rfl rfl|apply Db rfl rfl qN);(focus ((try intro hg);first|exact qM));constructor)|refine qP ?_)
 refine zag (fun q:Nat×List Int=>⟨[(1,.dat false (.int .i64 b)),(2,.ptr 2 0),(5,.own 5 0 0 q.2.length),(6,.dat true (.int .i64 ((q.1:Int)+1)))],
   [(2,.cells false true (n.cells.map (.dat false))),(5,.row 0 false true 1 (q.2.map zad))],48⟩)
  (fun q=>q.1≤30∧q.2=zcl n.links b q.1) (fun q=>30-q.1) (0,[]) ⟨Nat.zero_le _,by with_unfolding_all rfl⟩
  (Wk_g (fun g=>if g=5 then none else some g) rfl rfl kq) (fun q hR=>?_)
 obtain⟨P,us⟩:=q
 obtain⟨hP,hus⟩:=hR
 simp only at hP hus
 dsimp only
 have hul:us.length≤1200:=by
  rw[hus]
  have h1:=zig n.links b P
  have h2:P*n.links.length≤30*40:=Nat.mul_le_mul hP hnl
  omega
 by_cases hlt:P<30
 ·repeat' (first|refine qU ?_|refine qW ?_|((first|apply dX rfl|apply Da rfl rfl|apply Db rfl rfl qN);(focus ((try intro hg);first|exact qMo));constructor)|refine qP ?_)
  refine zag (fun q:Nat×List Int=>⟨[(1,.dat false (.int .i64 b)),(2,.ptr 2 0),(5,.own 5 0 0 q.2.length),(6,.dat true (.int .i64 ((P:Int)+1))),(14,.dat false (.slice (n.links.map zar))),(15,.dat true (.int .i64 (n.links.map zar).length)),(16,.dat true (.int .i64 q.1))],
    [(2,.cells false true (n.cells.map (.dat false))),(5,.row 0 false true 1 (q.2.map zad))],48⟩)
   (fun q=>q.1≤n.links.length∧q.2=us++((n.links.take q.1).filter (hitL b ((P:Int)+1))).map (fun _=>(P:Int)+1)) (fun q=>n.links.length-q.1) (0,us) ⟨Nat.zero_le _,by simp⟩ (Wk_g some rfl rfl kq) (fun q hR=>?_)
  obtain⟨k,vs⟩:=q
  obtain⟨hk,hvs⟩:=hR
  simp only at hk hvs
  dsimp only
  have hvl:vs.length≤1240:=by
   rw[hvs,List.length_append,List.length_map]
   have h1:=List.length_filter_le (hitL b ((P:Int)+1)) (n.links.take k)
   rw[List.length_take]at h1
   omega
  by_cases hlt2:k<n.links.length
  ·have hx:n.links[(k:Int).toNat]? = some n.links[k]:=by simp[hlt2]
   have hx':n.links[k]? = some n.links[k]:=by simp[hlt2]
   have hst:=zrN (b:=b) (p:=(P:Int)+1) hx'
   generalize n.links[k]=l at hx hx' hst
   rw[zp9]at hst
   repeat' (first|refine qU ?_|refine qW ?_|((first|apply dX rfl|apply Da rfl rfl|apply Db rfl rfl qN);(focus ((try intro hg);first|exact zaf rfl rfl (by omega) hx|exact qMo));constructor)|refine qP ?_)
   refine zat rfl (fun hb=>?_) (fun hb=>?_)
   ·rw[if_pos hb]at hst
    repeat' (first|refine qU ?_|refine qW ?_|((first|apply dX rfl|apply Da rfl rfl|apply Db rfl rfl qN);(focus ((try intro hg);first|exact zan (f:=zad) (us:=vs) (bs := [(P:Int)+1]) rfl rfl (.dat _ _) rfl rfl (.inr ⟨rfl,inferInstance⟩) rfl (by simp only[List.length_singleton];omega)|exact qM));constructor)|refine qP ?_)
    exact zaa (k+1,vs++[(P:Int)+1]) ⟨hlt2,by simp only;rw[hst,hvs,List.append_assoc]⟩ (by simp only;omega) (Wk_g some rfl rfl kq)
   ·rw[if_neg (by rw[hb];exact Bool.false_ne_true)]at hst
    repeat' (first|refine qU ?_|refine qW ?_|((first|apply dX rfl|apply Da rfl rfl|apply Db rfl rfl qN);(focus ((try intro hg);first|exact qM));constructor)|refine qP ?_)
    exact zaa (k+1,vs) ⟨hlt2,by simp only;rw[hst,hvs,List.append_nil]⟩ (by simp only;omega) (Wk_g some rfl rfl kq)
  ·have hnext:vs=zcl n.links b (P+1):=by
    rw[hvs,List.take_of_length_le (by omega),hus]
    with_unfolding_all exact(zdL n.links b P).symm
   repeat' (first|refine qU ?_|refine qW ?_|((first|apply dX rfl|apply Da rfl rfl|apply Db rfl rfl qN);(focus ((try intro hg);first|exact qMo));constructor)|refine qP ?_)
   refine zaa (P+1,vs) ⟨hlt,hnext⟩ (by simp only;omega) ?_
   simp only[Int.natCast_succ]
   exact(Wk_g some rfl rfl kq)
 ·have he:us=zah n.links b:=by
   have:P=30:=by omega
   subst this
   rw[hus]
   exact zpd b h.lk
  refine zaR 5 rfl rfl (by simp) ?_
  repeat' (first|refine qU ?_|refine qW ?_|((first|apply dX rfl|apply Da rfl rfl|apply Db rfl rfl qN);(focus ((try intro hg);first|exact qMo));constructor)|refine qP ?_)
  refine ret1 rfl qF ?_
  rw[←he]
end Go.Proofs.YtcdhlofhhcgohaaGreat
namespace Go.Proofs.YtcdhlofhhcgohaaGreat
open Go.RowKit
theorem Vec.cmp_vals {a b:Vec}:a.cmp b=if a.cmp b<0 then -1 else if b.cmp a<0 then 1 else 0:=by
 have h1 := @Vec.cmp_neg a b
 have h2 := @Vec.cmp_neg b a
 by_cases c1:a.cmp b<0
 ·rw[if_pos c1]
  unfold Vec.cmp at *
  simp only[orI,cmpI]at *
  repeat' split at c1
  all_goals (first|omega|(repeat' split)<;>omega)
 ·rw[if_neg c1]
  by_cases c2:b.cmp a<0
  ·rw[if_pos c2]
   have c3:=h2.1 c2
   unfold Vec.cmp
   simp only[orI,cmpI]
   repeat' split
   all_goals omega
  ·rw[if_neg c2]
   have c3:=fun h=>c1 (h1.2 h)
   have c4:=fun h=>c2 (h2.2 h)
   unfold Vec.cmp
   simp only[orI,cmpI]
   repeat' split
   all_goals omega
theorem Vec.cmp_zero {a b:Vec}:a.cmp b=0↔a=b:=by
 constructor
 ·intro h
  have h1 := @Vec.cmp_neg a b
  have h2 := @Vec.cmp_neg b a
  have h3:¬a.cmp b<0:=by omega
  have h4:¬b.cmp a<0:=fun h5=>by
   have := @Vec.cmp_vals a b
   rw[if_neg h3,if_pos h5]at this
   omega
  exact Vec.ext4 (by omega) (by omega) (by omega) (by omega)
 ·rintro rfl
  unfold Vec.cmp
  simp[orI,cmpI]
theorem zqa (a:Vec):eqL a.cells a.cells=some true:=by simp[Vec.cells,eqL,V.eq1]
theorem zrO (a b:Vec):eqL a.cells b.cells=some (decide (a=b)):=by
 by_cases h:a=b
 ·subst h;rw[zqa];simp
 ·rw[decide_eq_false h]
  cases a;cases b
  simp only[Vec.cells,eqL,V.eq1]
  simp at h ⊢
  omega
attribute [local irreducible] SStep DW DWS DWin DOps zaG zaE zaJ zd2 retQ zaN FnF FnG FnI Wk IntKind.wrap IntKind.andI IntKind.orI IntKind.xorI IntKind.andNotI IntKind.shlI IntKind.shrI Vec.cmp
theorem zhz (a b:Vec):FnF Tryz.prog 140 [.agg a.cells,.agg b.cells] (.bool (decide (a.cmp b<0))):=by
 refine zal Tryz.func140 rfl rfl rfl ?_
 simp only[zap]
 repeat' (first|refine qU ?_|refine zat rfl (fun hb=>?_) (fun hb=>?_)|((first|apply dX rfl|apply Da rfl rfl|apply Db rfl rfl qN);(focus ((try intro hg);first|exact qM));constructor)|refine qP ?_)
 ·refine ret1 rfl (.inl rfl) (congrArg V.bool ?_)
  rw[Bool.eq_iff_iff,decide_eq_true_iff,decide_eq_true_iff,Vec.cmp_neg]
  simp only[decide_eq_true_eq]at hb
  omega
 ·rename_i h1
  refine ret1 rfl (.inl rfl) (congrArg V.bool ?_)
  rw[Bool.eq_iff_iff,decide_eq_true_iff,decide_eq_true_iff,Vec.cmp_neg]
  simp only[decide_eq_true_eq,decide_eq_false_iff_not,Classical.not_not]at hb h1
  omega
 ·rename_i h1 h2
  refine ret1 rfl (.inl rfl) (congrArg V.bool ?_)
  rw[Bool.eq_iff_iff,decide_eq_true_iff,decide_eq_true_iff,Vec.cmp_neg]
  simp only[decide_eq_true_eq,decide_eq_false_iff_not,Classical.not_not]at hb h1 h2
  omega
 ·rename_i h1 h2
  refine ret1 rfl (.inl rfl) (congrArg V.bool ?_)
  rw[Bool.eq_iff_iff,decide_eq_true_iff,decide_eq_true_iff,Vec.cmp_neg]
  simp only[decide_eq_false_iff_not,Classical.not_not]at hb h1 h2
  omega
theorem zhA (v:Vec) (cost:Int):FnF Tryz.prog 139 [.agg v.cells,.int .i64 cost] (.tuple [((v.over cost).getD .zero).v,.bool (v.over cost).isSome]):=by
 refine zal Tryz.func139 rfl rfl rfl ?_
 simp only[zap]
 by_cases h:v.cost<0∨1000000000<v.cost∨cost<0∨1000000000<cost
 ·have hn:v.over cost=none:=by unfold Vec.over zeL;rw[if_pos (by omega)]
  repeat' (first|refine qU ?_|refine zat rfl (fun hb=>?_) (fun hb=>?_)|((first|apply dX rfl|apply Da rfl rfl|apply Db rfl rfl qN);(focus ((try intro hg);first|exact zn8 rfl rfl|exact qM));constructor)|refine qP ?_)
  ·refine retN (.cellA inferInstance rfl rfl rfl rfl qF (.tmp rfl qF .nil)) ?_
   rw[hn];rfl
  ·simp only[Bool.or_eq_false_iff,decide_eq_false_iff_not]at hb
   omega
 ·have ha:InK .i64 (v.cost+cost):=by simp only[InK];omega
  by_cases h2:1000000000<v.cost+cost
  ·have hn:v.over cost=none:=by unfold Vec.over zeL;rw[if_pos (by omega)]
   repeat' (first|refine qU ?_|refine zat rfl (fun hb=>?_) (fun hb=>?_)|((first|apply dX rfl|apply Da rfl rfl|apply Db rfl rfl qN);(focus ((try intro hg);first|exact zsA rfl rfl ha|exact qM));constructor)|refine qP ?_)
   ·refine retN (.cellA inferInstance rfl rfl rfl rfl qF (.tmp rfl qF .nil)) ?_
    rw[hn];rfl
   ·simp only[Bool.or_eq_false_iff,decide_eq_false_iff_not]at hb
    omega
  ·have hn:v.over cost=some { v with cost:=v.cost+cost }:=by unfold Vec.over zeL;rw[if_neg (by omega)]
   repeat' (first|refine qU ?_|refine zat rfl (fun hb=>?_) (fun hb=>?_)|((first|apply dX rfl|apply Da rfl rfl|apply Db rfl rfl qN);(focus ((try intro hg);first|exact zsA rfl rfl ha|exact qM));constructor)|refine qP ?_)
   ·simp only[Bool.or_eq_true,decide_eq_true_eq]at hb
    omega
   ·refine retN (.cellA inferInstance rfl rfl rfl rfl qF (.tmp rfl qF .nil)) ?_
    rw[hn];rfl
theorem zqb (says:Vec) (root port:Int) (l:List Offer):FnF Tryz.prog 141 [says.v,.int .i64 root,.int .i64 port,offers l] (.int .i64 (zb9 says root port l)):=by
 refine zal Tryz.func141 rfl rfl rfl ?_
 simp only[zap,offers]
 refine zbY 3 rfl (fun hlen=>?_)
 rw[List.length_map]at hlen
 by_cases hpr:port=root
 ·repeat' (first|refine qU ?_|((first|apply dX rfl|apply Da rfl rfl|apply Db rfl rfl qN);(focus ((try intro hg);first|exact zab (zdp rfl rfl) (decide_eq_true hpr)|exact qM));constructor)|refine qP ?_)
  refine ret1 rfl (.inl rfl) ?_
  rw[zb9,if_pos hpr]
 repeat' (first|refine qU ?_|((first|apply dX rfl|apply Da rfl rfl|apply Db rfl rfl qN);(focus ((try intro hg);first|exact zab (zdp rfl rfl) (decide_eq_false hpr)|exact qM));constructor)|refine qP ?_)
 refine zag (fun k:Nat=>⟨[(2,.dat false (.int .i64 port)),(9,.ptr 9 0),(23,.dat false (.slice (l.map Offer.cells))),(24,.dat true (.int .i64 (l.map Offer.cells).length)),(25,.dat true (.int .i64 k))],
   [(9,.cells false true [.dat false (.int .u64 says.root),.dat false (.int .i64 says.cost),.dat false (.int .u64 says.bridge),.dat false (.int .i64 port)])],50⟩)
  (fun k=>k≤l.length∧l.any (Offer.blocks { says with port:=port } port)=(l.drop k).any (Offer.blocks { says with port:=port } port)) (fun k=>l.length-k) 0 ⟨Nat.zero_le _,rfl⟩
  (Wk_g some rfl rfl kq) (fun k hR=>?_)
 obtain⟨hk,hany⟩:=hR
 have hml:(l.map Offer.cells).length=l.length:=by simp
 by_cases hlt:k<l.length
 ·have hx:(l.map Offer.cells)[(k:Int).toNat]? = some (l[k]).cells:=by simp[hlt]
  rw[List.drop_eq_getElem_cons hlt,List.any_cons]at hany
  generalize l[k]=o at hx hany
  have hc:=zhz o.vec ⟨says.root,says.cost,says.bridge,port⟩
  repeat' (first|refine qU ?_|refine zat rfl (fun hc=>?_) (fun hc=>?_)|((first|apply dX rfl|apply Da rfl rfl|apply Db rfl rfl qN);(focus ((try intro hg);first|exact zab (zam rfl rfl) (decide_eq_true (by omega:(k:Int)<((l.map Offer.cells).length:Int)))|exact zaT rfl rfl (by omega) hx rfl|exact zac hc rfl|exact qM));constructor)|refine qP ?_)
  ·refine ret1 rfl (.inl rfl) ?_
   have e:Offer.blocks { says with port:=port } port o=true:=hc
   rw[zb9,if_neg hpr,hany,e];rfl
  ·have e:Offer.blocks { says with port:=port } port o=false:=hc
   exact zaa (k+1) ⟨hlt,by rw[hany,e];rfl⟩ (by omega) (Wk_g some rfl rfl kq)
 ·repeat' (first|refine qU ?_|((first|apply dX rfl|apply Da rfl rfl|apply Db rfl rfl qN);(focus ((try intro hg);first|exact zab (zam rfl rfl) (decide_eq_false (by omega:¬(k:Int)<((l.map Offer.cells).length:Int)))|exact qM));constructor)|refine qP ?_)
  refine ret1 rfl (.inl rfl) ?_
  rw[zb9,if_neg hpr,hany,List.drop_eq_nil_of_le (by omega)];rfl
end Go.Proofs.YtcdhlofhhcgohaaGreat
namespace Go.Proofs.YtcdhlofhhcgohaaGreat
open Go.RowKit
def ze0 (live:List Link) (b:Int) (says:Vec) (root:Int) (l:List Offer) (p:Int):Int:=if live.any (hitL b p)then zb9 says root p l else 0
attribute [local irreducible] SStep DW DWin DOps zaG zaE zaJ retQ zaN FnF FnG FnI Wk IntKind.wrap IntKind.andI IntKind.orI IntKind.xorI IntKind.andNotI IntKind.shlI IntKind.shrI hitL zb9
theorem zrP {p:Link→Bool} {ls:List Link} {k:Nat} {l:Link} (h:ls[k]? = some l):(ls.take (k+1)).any p=((ls.take k).any p || p l):=by
 rw[List.take_add_one,h,List.any_append];simp
set_option maxHeartbeats 4000000 in
theorem znX (n:Net) (h:n.good) (ls:List Link) (hls:ls.length≤40) (b:Int) (says:Vec) (root:Int) (l:List Offer) :
  FnF Tryz.prog 107 [n.v,.slice (ls.map zar),.int .i64 b,says.v,.int .i64 root,offers l] (.slice (((zah n.links b).map (ze0 ls b says root l)).map zad)):=by
 refine zal Tryz.func107 rfl rfl rfl ?_
 simp only[zap]
 have hml:(ls.map zar).length=ls.length:=by simp
 have hpo:=zes n h b
 have hpl:(zah n.links b).length≤80:=by
  have h1:=zbz n.links b
  have h2:=h.nl
  rw[zaW]
  have:(zcj (rawP n.links b)).length=(rawP n.links b).length:=(List.mergeSort_perm _ _).length_eq
  omega
 generalize zah n.links b=ps at hpo hpl
 have hmp:(ps.map zad).length=ps.length:=by simp
 repeat' (first|refine qU ?_|((first|apply dX rfl|apply Da rfl rfl|apply Db rfl rfl qN);(focus ((try intro hg);first|exact zac hpo rfl|exact qM));constructor)|refine qP ?_)
 refine zag (fun q:Nat×List Int=>⟨[(1,.dat false (.slice (ls.map zar))),(2,.dat false (.int .i64 b)),(4,.dat false (.int .i64 root)),(5,.dat false (offers l)),(9,.ptr 9 0),(13,.own 13 0 0 q.2.length),(21,.dat true (.slice (ps.map zad))),(22,.dat true (.int .i64 (ps.map zad).length)),(23,.dat true (.int .i64 q.1))],
   [(9,.cells false true (says.cells.map (.dat false))),(13,.row 0 false true 1 (q.2.map zad))],67⟩)
  (fun q=>q.1≤ps.length∧q.2=(ps.take q.1).map (ze0 ls b says root l)) (fun q=>ps.length-q.1) (0,[]) ⟨Nat.zero_le _,rfl⟩
  (Wk_g (fun g=>if g=13 then none else some g) rfl rfl kq) (fun q hR=>?_)
 obtain⟨i,us⟩:=q
 obtain⟨hi,hus⟩:=hR
 simp only at hi hus
 dsimp only
 have hul:us.length=i:=by rw[hus,List.length_map,List.length_take];omega
 by_cases hlt:i<ps.length
 ·have hx:ps[(i:Int).toNat]? = some ps[i]:=by simp[hlt]
  have hst:(ps.take (i+1)).map (ze0 ls b says root l)=us++[ze0 ls b says root l ps[i]]:=by
   rw[List.take_add_one,List.getElem?_eq_getElem hlt,List.map_append,hus];rfl
  generalize ps[i]=p at hx hst
  have hro:=zqb says root p l
  repeat' (first|refine qU ?_|refine qW ?_|((first|apply dX rfl|apply Da rfl rfl|apply Db rfl rfl qN);(focus ((try intro hg);first|exact zaf rfl rfl (by omega) hx|exact qMo));constructor)|refine qP ?_)
  refine zag (fun k:Nat=>⟨[(1,.dat false (.slice (ls.map zar))),(2,.dat false (.int .i64 b)),(4,.dat false (.int .i64 root)),(5,.dat false (offers l)),(9,.ptr 9 0),(13,.own 13 0 0 us.length),(21,.dat true (.slice (ps.map zad))),(22,.dat true (.int .i64 (ps.map zad).length)),(23,.dat true (.int .i64 i)),
    (15,.dat true (.int .i64 p)),(16,.dat true (.int .i64 (if(ls.take k).any (hitL b p)then zb9 says root p l else 0))),(27,.dat false (.slice (ls.map zar))),(28,.dat true (.int .i64 (ls.map zar).length)),(29,.dat true (.int .i64 k))],
    [(9,.cells false true (says.cells.map (.dat false))),(13,.row 0 false true 1 (us.map zad))],67⟩)
   (fun k=>k≤ls.length) (fun k=>ls.length-k) 0 (Nat.zero_le _) (Wk_g some rfl rfl kq) (fun k hk=>?_)
  by_cases hlt2:k<ls.length
  ·have hx2:ls[(k:Int).toNat]? = some ls[k]:=by simp[hlt2]
   have hx':ls[k]? = some ls[k]:=by simp[hlt2]
   have hst2:=zrP (p:=hitL b p) hx'
   generalize ls[k]=x at hx2 hx' hst2
   rw[zp9]at hst2
   repeat' (first|refine qU ?_|refine qW ?_|((first|apply dX rfl|apply Da rfl rfl|apply Db rfl rfl qN);(focus ((try intro hg);first|exact zaf rfl rfl (by omega) hx2|exact qMo));constructor)|refine qP ?_)
   refine zat rfl (fun hb=>?_) (fun hb=>?_)
   ·rw[hb,Bool.or_true]at hst2
    repeat' (first|refine qU ?_|refine qW ?_|((first|apply dX rfl|apply Da rfl rfl|apply Db rfl rfl qN);(focus ((try intro hg);first|exact zac hro rfl|exact qM));constructor)|refine qP ?_)
    refine zaa (k+1) hlt2 (by omega) ?_
    rw[hst2]
    exact(Wk_g some rfl rfl kq)
   ·rw[hb,Bool.or_false]at hst2
    repeat' (first|refine qU ?_|refine qW ?_|((first|apply dX rfl|apply Da rfl rfl|apply Db rfl rfl qN);(focus ((try intro hg);first|exact qM));constructor)|refine qP ?_)
    refine zaa (k+1) hlt2 (by omega) ?_
    rw[hst2]
    exact(Wk_g some rfl rfl kq)
  ·have hall:(if(ls.take k).any (hitL b p)then zb9 says root p l else 0)=ze0 ls b says root l p:=by
    rw[List.take_of_length_le (by omega)];rfl
   rw[hall]
   repeat' (first|refine qU ?_|refine qW ?_|((first|apply dX rfl|apply Da rfl rfl|apply Db rfl rfl qN);(focus ((try intro hg);first|exact zan (f:=zad) (us:=us) (bs := [ze0 ls b says root l p]) rfl rfl (.dat _ _) rfl rfl (.inr ⟨rfl,inferInstance⟩) rfl (by simp only[List.length_singleton];omega)|exact qMo));constructor)|refine qP ?_)
   exact zaa (i+1,us++[ze0 ls b says root l p]) ⟨hlt,hst.symm⟩ (by simp only;omega) (Wk_g some rfl rfl kq)
 ·have he:us=ps.map (ze0 ls b says root l):=by rw[hus,List.take_of_length_le (by omega)]
  refine zaR 13 rfl rfl (by simp) ?_
  repeat' (first|refine qU ?_|refine qW ?_|((first|apply dX rfl|apply Da rfl rfl|apply Db rfl rfl qN);(focus ((try intro hg);first|exact qMo));constructor)|refine qP ?_)
  refine ret1 rfl qF ?_
  rw[←he]
end Go.Proofs.YtcdhlofhhcgohaaGreat
namespace Go.Proofs.YtcdhlofhhcgohaaGreat
open Go.RowKit
theorem wrap64 (x:Int):IntKind.i64.wrap x=(x+9223372036854775808) % 18446744073709551616-9223372036854775808:=by
 simp[IntKind.wrap,IntKind.bits,IntKind.signed]
 split<;>omega
def zt5 (k:Int) (l:Link):Link := { l with a:=IntKind.i64.wrap (k-1-l.a),b:=IntKind.i64.wrap (k-1-l.b) }
def revN (n:Net):Net:=⟨n.bridges.reverse,(n.links.map (zt5 n.bridges.length)).reverse⟩
section
variable {n : Net} (h : n.good) (hm : (revN n).good) (tree : Int)
include h
include hm
end
end Go.Proofs.YtcdhlofhhcgohaaGreat
