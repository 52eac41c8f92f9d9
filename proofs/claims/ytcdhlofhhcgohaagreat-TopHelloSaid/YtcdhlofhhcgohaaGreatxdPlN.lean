/- Contract: plan.Plan. -/
import Derived.Test.YtcdhlofhhcgohaaGreatxcPlP
import Derived.Test.YtcdhlofhhcgohaaGreatxdTlq
import Derived.Test.YtcdhlofhhcgohaaGreatxdTlr
import Derived.Test.YtcdhlofhhcgohaaGreatxdPlS
namespace Go.Proofs.YtcdhlofhhcgohaaGreat
open Go.RowKit
attribute [local irreducible] SStep DW DWin DOps thenQ inBlk loopQ retQ retQG FnF FnG FnI Wk IntKind.wrap IntKind.andI IntKind.orI IntKind.xorI IntKind.andNotI IntKind.shlI IntKind.shrI
set_option maxHeartbeats 1000000 in
theorem talk_offers (ends:List End) (l:List Mind) (hl:ends.length≤1000) (ho:∀ e∈ends,0≤e.other∧e.other<l.length):FnF Tryz.prog 135 [.slice (ends.map endV),.slice (l.map Mind.cells)] (offers (hears ends l)):=by
 refine fnF_of Tryz.func135 rfl rfl rfl ?_
 simp only[envOf,offers]
 have hml:(ends.map endV).length=ends.length:=by simp
 have hms:(l.map Mind.cells).length=l.length:=by simp
 repeat' (first|refine qU ?_|((first|apply dX rfl|apply Da rfl rfl|apply Db rfl rfl qN);(focus ((try intro hg);first|exact qM));constructor)|refine qP ?_)
 refine DW_loop (fun p:Nat×List Offer=>⟨[(1,.dat false (.slice (l.map Mind.cells))),(5,.own 5 0 0 p.2.length),(9,.dat false (.slice (ends.map endV))),(10,.dat true (.int .i64 (ends.map endV).length)),(11,.dat true (.int .i64 p.1))],[(5,.row 0 false true 7 (p.2.map Offer.cells))],41⟩)
  (fun p=>p.1≤ends.length∧p.2=hears (ends.take p.1) l) (fun p=>ends.length-p.1) (0,[]) ⟨Nat.zero_le _,rfl⟩
  (Wk_g (fun g=>if g=5 then none else some g) rfl rfl kq) (fun p hR=>?_)
 obtain⟨k,us⟩:=p
 obtain⟨hk,hus⟩:=hR
 simp only at hk hus
 dsimp only
 have hul:us.length=k:=by rw[hus];simp[hears];omega
 by_cases hlt:k<ends.length
 ·have hx:ends[(k:Int).toNat]? = some ends[k]:=by simp[hlt]
  have hr:=ho ends[k] (List.getElem_mem hlt)
  have hnext:us++[hearOf l ends[k]]=hears (ends.take (k+1)) l:=by
   rw[hus,List.take_add_one,List.getElem?_eq_getElem hlt];unfold hears;rw[List.map_append];rfl
  generalize ends[k]=e at hx hr hnext
  have hy:l[e.other.toNat]? = some (l[e.other.toNat]'(by omega)):=List.getElem?_eq_getElem (by omega)
  have hoe:hearOf l e=⟨e.port,e.cost,(l[e.other.toNat]'(by omega)).age,{ (l[e.other.toNat]'(by omega)).vec with port:=e.oport }⟩:=by unfold hearOf;rw[hy];rfl
  generalize l[e.other.toNat]'(by omega)=m at hy hoe
  repeat' (first|refine qU ?_|refine qW ?_|((first|apply dX rfl|apply Da rfl rfl|apply Db rfl rfl qN);(focus ((try intro hg);first|exact S_ixM rfl rfl (by omega) hx|exact S_ixM rfl rfl hr.1 hy|exact S_appM (f:=Offer.cells) (us:=us) (bs := [hearOf l e]) rfl rfl (.dat _ _) (by rw[hoe];rfl) rfl (.inr ⟨rfl,inferInstance⟩) rfl (by simp only[List.length_singleton];omega)|exact qMo));constructor)|refine qP ?_)
  exact loop_again (k+1,us++[hearOf l e]) ⟨hlt,hnext⟩ (by simp only;omega) (Wk_g some rfl rfl kq)
 ·have he:us=hears ends l:=by rw[hus,List.take_of_length_le (by omega)]
  refine DW_seal 5 rfl rfl (by simp) ?_
  repeat' (first|refine qU ?_|refine qW ?_|((first|apply dX rfl|apply Da rfl rfl|apply Db rfl rfl qN);(focus ((try intro hg);first|exact qMo));constructor)|refine qP ?_)
  refine ret1 rfl qF ?_
  rw[←he]
theorem calm_take {rs calm:List Int} {k:Nat} {r c:Int} (hr:rs[k]? = some r) (hc:calm[k]? = some c):(calmsOf rs calm).take (k+1)=(calmsOf rs calm).take k++[calmOf r c]:=by
 have hk:=(List.getElem?_eq_some_iff.1 hr).1
 have:(calmsOf rs calm)[k]? = some (calmOf r c):=by
  unfold calmsOf
  rw[List.getElem?_map,List.getElem?_range hk,Option.map_some,hr,hc];rfl
 rw[List.take_add_one,this];rfl
set_option maxHeartbeats 4000000 in
theorem talk_mind (n:Net) (h:n.good) (tree:Int) (i:Nat) (hi:i<n.bridges.length) (l:List Mind) (m:Mind) (hm:l[i]? = some m) (hll:l.length=n.bridges.length) (hcl:m.calm.length=(portsOf n.links i).length) (hcr:∀ c∈m.calm,0≤c∧c≤50) :
  FnF Tryz.prog 103 [.rp n.cells,.int .i64 tree,.int .i64 i,.slice ((endsOf n i).map endV),.slice (l.map Mind.cells)] (.agg (mindOf n tree i (endsOf n i) l).cells):=by
 refine fnF_of Tryz.func103 rfl rfl rfl ?_
 simp only[envOf]
 have hmb:(n.bridges.map bridgeV).length=n.bridges.length:=by simp
 have hnb:=h.nb
 have hnl:=h.nl
 have hel:=endsOf_len n i
 have hx:n.bridges[(i:Int).toNat]? = some n.bridges[i]:=by simp[hi]
 have hx':n.bridges[i]? = some n.bridges[i]:=by simp[hi]
 have hbo:=h.br n.bridges[i] (List.getElem_mem hi)
 have hidn:=idN_of (tree:=tree) hx'
 have hid:=plan_Ident n.bridges[i] hbo tree
 rw[←hidn]at hid
 have hof:=talk_offers (endsOf n i) l (by omega) (fun e he=>by
  have h3:=(rawE_ok h (mem_endsOf.1 he)).2.2.1
  have:=(rawE_ok h (mem_endsOf.1 he))
  omega)
 generalize n.bridges[i]=b at hx hid
 have hy:l[(i:Int).toNat]? = some m:=by rw[Int.toNat_natCast];exact hm
 have hlm:(l.map Mind.cells).length=l.length:=by simp
 have hil:i<l.length:=by omega
 have hmo:mindOf n tree i (endsOf n i) l=⟨(chooseS (idN n tree i) (hears (endsOf n i) l)).says (idN n tree i),(chooseS (idN n tree i) (hears (endsOf n i) l)).age,(chooseS (idN n tree i) (hears (endsOf n i) l)).port,portsOf n.links i,
   rolesP (endsOf n i) ((chooseS (idN n tree i) (hears (endsOf n i) l)).says (idN n tree i)) (chooseS (idN n tree i) (hears (endsOf n i) l)).port (hears (endsOf n i) l) (portsOf n.links i),
   calmsOf (rolesP (endsOf n i) ((chooseS (idN n tree i) (hears (endsOf n i) l)).says (idN n tree i)) (chooseS (idN n tree i) (hears (endsOf n i) l)).port (hears (endsOf n i) l) (portsOf n.links i)) m.calm⟩:=by
  unfold mindOf
  rw[hm]
  rfl
 rw[hmo]
 generalize hears (endsOf n i) l=os at hof
 generalize idN n tree i=me at hid
 have hch:=vec_Choose me os
 generalize hc0:chooseS me os=c at hch
 generalize c.says me=v at hch
 obtain⟨cb,cage,cport⟩:=c
 simp only at hch ⊢
 have hro:=plan_Roles n hnl i (endsOf n i) v cport os
 have hrl:=rolesP_len (endsOf n i) v cport os (portsOf n.links i)
 have hpl:(portsOf n.links i).length≤80:=by
  have:=rawP_len n.links i
  rw[portsOf_eq];unfold sortI;rw[List.length_mergeSort];omega
 generalize rolesP (endsOf n i) v cport os (portsOf n.links i)=rs at hro hrl
 generalize portsOf n.links i=ps at hro hrl hcl hpl
 have hmr:(rs.map intV1).length=rs.length:=by simp
 have hmc:(m.calm.map intV1).length=m.calm.length:=by simp
 repeat' (first|refine qU ?_|refine qW ?_|((first|apply dX rfl|apply Da rfl rfl|apply Db rfl rfl qN);(focus ((try intro hg);first|exact S_call hof rfl|exact S_ixM rfl rfl (by omega) hx|exact S_call hid rfl|exact S_call hch rfl|exact S_call hro rfl|exact qMo));constructor)|refine qP ?_)
 refine DW_loop (fun q:Nat×List Int=>⟨[(2,.dat false (.int .i64 i)),(4,.dat false (.slice (l.map Mind.cells))),(10,.ptr 10 0),(12,.ptr 12 0),(52,.dat true (.slice (rs.map intV1))),(53,.dat true (.int .i64 (rs.map intV1).length)),(54,.dat true (.int .i64 q.1))],
   [(10,.cells false true (Mind.zero.cells.map V.zD)),(12,.cells false true (v.cells.map (.dat true)++[.dat true (.int .i64 cage),.dat true (.int .i64 cport),.dat true (.slice (ps.map intV1)),.dat true (.slice (rs.map intV1)),.own 79 q.2.length 0 q.2.length])),(79,.row q.2.length false true 1 (q.2.map intV1))],83⟩)
  (fun q=>q.1≤rs.length∧q.2=(calmsOf rs m.calm).take q.1) (fun q=>rs.length-q.1) (0,[]) ⟨Nat.zero_le _,rfl⟩
  (Wk_g (fun g=>if g=79 then none else some g) rfl rfl kq) (fun q hR=>?_)
 obtain⟨k,us⟩:=q
 obtain⟨hk,hus⟩:=hR
 simp only at hk hus
 dsimp only
 have hul:us.length=k:=by rw[hus,List.length_take,calmsOf_len];omega
 by_cases hlt:k<rs.length
 ·have hxr:rs[(k:Int).toNat]? = some rs[k]:=by simp[hlt]
  have hxr':rs[k]? = some rs[k]:=by simp[hlt]
  have hxc:m.calm[(k:Int).toNat]? = some (m.calm[k]'(by omega)):=by simp[show k<m.calm.length by omega]
  have hxc':m.calm[k]? = some (m.calm[k]'(by omega)):=by simp[show k<m.calm.length by omega]
  have hcb:=hcr (m.calm[k]'(by omega)) (List.getElem_mem _)
  have hst:=calm_take hxr' hxc'
  generalize rs[k]=r at hxr hst
  generalize m.calm[k]'(by omega)=cc at hxc hcb hst
  by_cases hr:r=1∨r=2
  ·have hcm:calmOf r cc=min cc 49+1:=by unfold calmOf;rw[if_pos hr];split<;>omega
   rw[hcm]at hst
   rcases hr with hr|hr
   ·repeat' (first|refine qU ?_|refine qW ?_|((first|apply dX rfl|apply Da rfl rfl|apply Db rfl rfl qN);(focus ((try intro hg);first|exact S_ixM rfl rfl (by omega) hxr|exact S_ixM rfl rfl (by omega) hy|exact S_ixM rfl rfl (by omega) hxc|exact S_min rfl rfl|exact S_appM (f:=intV1) (us:=us) (bs := [min cc 49+1]) rfl rfl (.dat _ _) rfl rfl (.inr ⟨rfl,inferInstance⟩) rfl (by simp only[List.length_singleton];omega)|exact qMo));constructor)|refine qP ?_)
    exact loop_again (k+1,us++[min cc 49+1]) ⟨hlt,by rw[hus,←hst]⟩ (by simp only;omega) (Wk_g some rfl rfl kqp)
   ·repeat' (first|refine qU ?_|refine qW ?_|((first|apply dX rfl|apply Da rfl rfl|apply Db rfl rfl qN);(focus ((try intro hg);first|exact S_ixM rfl rfl (by omega) hxr|exact S_ixM rfl rfl (by omega) hy|exact S_ixM rfl rfl (by omega) hxc|exact S_min rfl rfl|exact S_appM (f:=intV1) (us:=us) (bs := [min cc 49+1]) rfl rfl (.dat _ _) rfl rfl (.inr ⟨rfl,inferInstance⟩) rfl (by simp only[List.length_singleton];omega)|exact qMo));constructor)|refine qP ?_)
    exact loop_again (k+1,us++[min cc 49+1]) ⟨hlt,by rw[hus,←hst]⟩ (by simp only;omega) (Wk_g some rfl rfl kqp)
  ·have hcm:calmOf r cc=0:=by unfold calmOf;rw[if_neg hr]
   rw[hcm]at hst
   repeat' (first|refine qU ?_|refine qW ?_|((first|apply dX rfl|apply Da rfl rfl|apply Db rfl rfl qN);(focus ((try intro hg);first|exact S_ixM rfl rfl (by omega) hxr|exact S_appM (f:=intV1) (us:=us) (bs := [0]) rfl rfl (.dat _ _) rfl rfl (.inr ⟨rfl,inferInstance⟩) rfl (by simp only[List.length_singleton];omega)|exact qMo));constructor)|refine qP ?_)
   exact loop_again (k+1,us++[0]) ⟨hlt,by rw[hus,←hst]⟩ (by simp only;omega) (Wk_g some rfl rfl kqp)
 ·have he:us=calmsOf rs m.calm:=by rw[hus,List.take_of_length_le (by rw[calmsOf_len];omega)]
  refine DW_weak (s':=⟨[(10,.ptr 10 0),(12,.ptr 12 0),(53,.dat true (.int .i64 (rs.map intV1).length)),(54,.dat true (.int .i64 k))],
   [(10,.cells false true (Mind.zero.cells.map V.zD)),(12,.cells false true (v.cells.map (.dat true)++[.dat true (.int .i64 cage),.dat true (.int .i64 cport),.dat true (.slice (ps.map intV1)),.dat true (.slice (rs.map intV1)),.own 79 0 0 us.length])),(79,.row 0 false true 1 (us.map intV1))],83⟩) (Wk_g some rfl rfl kqp) ?_
  refine DW_freeze 79 (fun _ _ _ h=>by cases h) ?_
  repeat' (first|refine qU ?_|refine qW ?_|((first|apply dX rfl|apply Da rfl rfl|apply Db rfl rfl qN);(focus ((try intro hg);first|exact qMo));constructor)|refine qP ?_)
  refine retN (.cellA inferInstance rfl rfl rfl rfl qF .nil) ?_
  rw[he]
  show V.agg [_,_,_,_,_,_,_,_,V.slice (List.take _ (List.drop 0 _))]=_
  rw[List.drop_zero,List.take_of_length_le (by simp)]
  rfl
set_option maxHeartbeats 4000000 in
theorem talk_tick (n:Net) (h:n.good) (t:List (List Mind)) (ht:goodT n t) :
  FnF Tryz.prog 56 [.rp n.cells,.slice (((List.range n.bridges.length).map (endsOf n)).map endsRow),talkV t] (talkV (tickN n t)):=by
 refine fnF_of Tryz.func56 rfl rfl rfl ?_
 simp only[envOf,talkV]
 have hmt:(t.map mindsRow).length=t.length:=by simp
 have hnb:=h.nb
 have htl:=ht.l
 repeat' (first|refine qU ?_|refine qW ?_|((first|apply dX rfl|apply Da rfl rfl|apply Db rfl rfl qN);(focus ((try intro hg);first|exact qMo));constructor)|refine qP ?_)
 refine DW_loop (fun q:Nat×List (List Mind)=>⟨[(0,.dat false (.rp n.cells)),(1,.dat false (.slice (((List.range n.bridges.length).map (endsOf n)).map endsRow))),(6,.ptr 6 0),(7,.ptr 7 0),(13,.dat false (.slice (t.map mindsRow))),(14,.dat true (.int .i64 (t.map mindsRow).length)),(15,.dat true (.int .i64 q.1))],
   [(6,.cells false true [.nil]),(7,.cells false true [.own 42 q.2.length 0 q.2.length]),(42,.row q.2.length false true 1 (q.2.map mindsRow))],46⟩)
  (fun q=>q.1≤t.length∧q.2=(tickN n t).take q.1) (fun q=>t.length-q.1) (0,[]) ⟨Nat.zero_le _,rfl⟩
  (Wk_g (fun g=>if g=42 then none else some g) rfl rfl kq) (fun q hR=>?_)
 obtain⟨k,us⟩:=q
 obtain⟨hk,hus⟩:=hR
 simp only at hk hus
 dsimp only
 have htk:(tickN n t).length=t.length:=by simp[tickN]
 have hul:us.length=k:=by rw[hus,List.length_take];omega
 by_cases hlt:k<t.length
 ·have hx:t[(k:Int).toNat]? = some t[k]:=by simp[hlt]
  have hx':t[k]? = some t[k]:=by simp[hlt]
  obtain⟨hl,hm⟩:=ht.m t[k] (List.getElem_mem hlt)
  have hst:(tickN n t).take (k+1)=us++[tickT n k t[k]]:=by
   have:(tickN n t)[k]? = some (tickT n k t[k]):=by
    unfold tickN
    rw[List.getElem?_map,List.getElem?_range hlt,Option.map_some,hx'];rfl
   rw[List.take_add_one,this,hus];rfl
  generalize t[k]=l at hx hl hm hst
  have hml:(l.map Mind.cells).length=l.length:=by simp
  repeat' (first|refine qU ?_|refine qW ?_|((first|apply dX rfl|apply Da rfl rfl|apply Db rfl rfl qN);(focus ((try intro hg);first|exact S_ixM rfl rfl (by omega) hx|exact qMo));constructor)|refine qP ?_)
  refine DW_loop (fun q:Nat×List Mind=>⟨[(0,.dat false (.rp n.cells)),(1,.dat false (.slice (((List.range n.bridges.length).map (endsOf n)).map endsRow))),(6,.ptr 6 0),(7,.ptr 7 0),(13,.dat false (.slice (t.map mindsRow))),(14,.dat true (.int .i64 (t.map mindsRow).length)),(15,.dat true (.int .i64 k)),(8,.dat true (.int .i64 k)),(9,.dat false (.slice (l.map Mind.cells))),(10,.own 36 0 0 q.2.length),(21,.dat true (.int .i64 (l.map Mind.cells).length)),(22,.dat true (.int .i64 q.1))],
    [(6,.cells false true [.nil]),(7,.cells false true [.own 42 us.length 0 us.length]),(42,.row us.length false true 1 (us.map mindsRow)),(36,.row 0 false true 9 (q.2.map Mind.cells))],46⟩)
   (fun q=>q.1≤l.length∧q.2=(tickT n k l).take q.1) (fun q=>l.length-q.1) (0,[]) ⟨Nat.zero_le _,rfl⟩
   (Wk_g (fun g=>if g=36 then none else some g) rfl rfl kqp) (fun q hR=>?_)
  obtain⟨j,vs⟩:=q
  obtain⟨hj,hvs⟩:=hR
  simp only at hj hvs
  dsimp only
  have htt:(tickT n k l).length=l.length:=by simp[tickT]
  have hvl:vs.length=j:=by rw[hvs,List.length_take];omega
  by_cases hlj:j<l.length
  ·have hy':l[j]? = some l[j]:=by simp[hlj]
   have hgm:=hm j l[j] hy'
   have hmi:=talk_mind n h k j (by omega) l l[j] hy' hl hgm.c hgm.b
   have hxe:((List.range n.bridges.length).map (endsOf n))[(j:Int).toNat]? = some (endsOf n j):=by simp[show j<n.bridges.length by omega]
   have hst2:(tickT n k l).take (j+1)=vs++[mindOf n k j (endsOf n j) l]:=by
    have:(tickT n k l)[j]? = some (mindOf n k j (endsOf n j) l):=by
     unfold tickT
     rw[List.getElem?_map,List.getElem?_range hlj];rfl
    rw[List.take_add_one,this,hvs];rfl
   generalize mindOf n k j (endsOf n j) l=mo at hmi hst2
   repeat' (first|refine qU ?_|refine qW ?_|((first|apply dX rfl|apply Da rfl rfl|apply Db rfl rfl qN);(focus ((try intro hg);first|exact S_ixM rfl rfl (by omega) hxe|exact S_call hmi rfl|exact S_appM (f:=Mind.cells) (us:=vs) (bs := [mo]) rfl rfl (.dat _ _) rfl rfl (.inl rfl) rfl (by simp only[List.length_singleton];omega)|exact qMo));constructor)|refine qP ?_)
   exact loop_again (j+1,vs++[mo]) ⟨hlj,hst2.symm⟩ (by simp only;omega) (Wk_g some rfl rfl kqp)
  ·have he:vs=tickT n k l:=by rw[hvs,List.take_of_length_le (by omega)]
   refine DW_seal 10 rfl rfl (by simp) ?_
   repeat' (first|refine qU ?_|refine qW ?_|((first|apply dX rfl|apply Da rfl rfl|apply Db rfl rfl qN);(focus ((try intro hg);first|exact S_appM (f:=mindsRow) (us:=us) (bs := [vs]) rfl rfl (.dat _ _) rfl rfl (.inl rfl) rfl (by simp only[List.length_singleton];omega)|exact qMo));constructor)|refine qP ?_)
   exact loop_again (k+1,us++[vs]) ⟨hlt,by rw[hst,he]⟩ (by simp only;omega) (Wk_g some rfl rfl kqp)
 ·have he:us=tickN n t:=by rw[hus,List.take_of_length_le (by omega)]
  refine DW_weak (s':=⟨[(6,.ptr 6 0),(7,.ptr 7 0),(14,.dat true (.int .i64 (t.map mindsRow).length)),(15,.dat true (.int .i64 k))],
   [(6,.cells false true [.nil]),(7,.cells false true [.own 42 0 0 us.length]),(42,.row 0 false true 1 (us.map mindsRow))],46⟩) (Wk_g some rfl rfl kqp) ?_
  refine DW_freeze 42 (fun _ _ _ h=>by cases h) ?_
  repeat' (first|refine qU ?_|refine qW ?_|((first|apply dX rfl|apply Da rfl rfl|apply Db rfl rfl qN);(focus ((try intro hg);first|exact qMo));constructor)|refine qP ?_)
  refine retN (.cellA inferInstance rfl rfl rfl rfl qF .nil) ?_
  rw[he]
  show V.agg [V.slice (List.take _ (List.drop 0 _))]=_
  rw[List.drop_zero,List.take_of_length_le (by simp)]
end Go.Proofs.YtcdhlofhhcgohaaGreat
namespace Go.Proofs.YtcdhlofhhcgohaaGreat
open Go.RowKit
attribute [local irreducible] SStep DW DWin DOps thenQ inBlk loopQ retQ retQG FnF FnG FnI Wk IntKind.wrap IntKind.andI IntKind.orI IntKind.xorI IntKind.andNotI IntKind.shlI IntKind.shrI Region.wrong Bridge.wrong Link.wrong Bridge.prio identR sortE rawE famX ctrD famM idsR srtX liveB
theorem set_get {xs:List (List End)} {A:Nat} {d:D} (h:A<xs.length):((ctrD xs).set A d)[((A:Nat):Int).toNat*1]? = some d:=by
 rw[Int.toNat_natCast,Nat.mul_one,List.getElem?_set_self (by rw[ctrD_len];exact h)]
theorem set_ble {xs:List (List End)} {A:Nat} {d:D} (h:A<xs.length):Nat.ble (((A:Nat):Int).toNat*1+1) ((ctrD xs).set A d).length=true:=by
 apply Nat.ble_eq_true_of_le
 rw[Int.toNat_natCast,List.length_set,ctrD_len];omega
theorem set_splice {xs:List (List End)} {A:Nat} {d d':D} (h:A<xs.length):splice ((ctrD xs).set A d) (((A:Nat):Int).toNat*1) [d']=(ctrD xs).set A d':=by
 rw[Int.toNat_natCast,Nat.mul_one,splice_set (by rw[List.length_set,ctrD_len];exact h),List.set_set]
set_option maxHeartbeats 4000000 in
theorem plan_EndsH (n:Net) (hlk:∀ l∈n.links,l.ok n.bridges.length) (hn:n.links.length≤40) (hb12:n.bridges.length≤12)
  (hs:∀ i<n.bridges.length,FnI Tryz.prog 101 [.own 1000 0 0 (rawE (liveL n) i).length,.dat false (.fn 102 [])] [(1000,.row 0 false true 4 ((rawE (liveL n) i).map endV))] [(1000,.row 0 false true 4 ((sortE (rawE (liveL n) i)).map endV))]) :
  FnF Tryz.prog 55 [.rp n.cells,.slice ((idsR n.bridges).map bytesR)] (.slice (((List.range n.bridges.length).map (endsOf n)).map endsRow)):=by
 refine fnF_of Tryz.func55 rfl rfl rfl ?_
 simp only[envOf]
 rw[←ends_all]
 obtain⟨nb,hnb⟩:∃ nb,nb=n.bridges.length:=⟨_,rfl⟩
 rw[←hnb]at hlk hs hb12 ⊢
 have hmb:(n.bridges.map bridgeV).length=nb:=by simp[hnb]
 have hml:(n.links.map linkV).length=n.links.length:=by simp
 have hidl:(idsR n.bridges).length=nb:=by unfold idsR;simp[hnb]
 repeat' (first|(apply dt rfl;case h=>exact S_mkC (l:=nb) _ rfl rfl (by rw[hmb]) (by rw[hmb]) (by omega) rfl)|refine qU ?_|((first|apply dX rfl|apply Da rfl rfl|apply Db rfl rfl qN);(focus ((try intro hg);first|exact qM));constructor)|refine qP ?_)
 have hx0:=famX_nil nb
 refine DW_loop (fun k:Nat=>⟨[(0,.dat false (.rp n.cells)),(1,.dat false (.slice ((idsR n.bridges).map bytesR))),(5,.sl 950 nb),(19,.dat false (.slice (n.links.map linkV))),(20,.dat true (.int .i64 (n.links.map linkV).length)),(21,.dat true (.int .i64 k))],famS endV 4 [] (famX nb ((n.links.take k).filter (liveB n.bridges))),93⟩)
  (fun k=>k≤n.links.length) (fun k=>n.links.length-k) 0 (Nat.zero_le _)
  (by
   show Wk _ ⟨_,famS endV 4 [] (famX nb []),93⟩
   rw[hx0]
   exact Wk_famNew endV 4 15 (by decide) rfl rfl rfl kq kq) (fun k hk=>?_)
 by_cases hlt:k<n.links.length
 ·have hx:n.links[(k:Int).toNat]? = some n.links[k]:=by simp[hlt]
  have hl:=hlk n.links[k] (List.getElem_mem hlt)
  have hst:=live_take (bs:=n.bridges) (show n.links[k]? = some n.links[k] by simp[hlt])
  have hle:=live_le n k
  generalize n.links[k]=l at hx hl hst
  have hxa:(idsR n.bridges)[l.a.toNat]? = some ((idsR n.bridges)[l.a.toNat]'(by have:=hl.a1;have:=hl.a0;omega)):=List.getElem?_eq_getElem _
  have hxb:(idsR n.bridges)[l.b.toNat]? = some ((idsR n.bridges)[l.b.toNat]'(by have:=hl.b1;have:=hl.b0;omega)):=List.getElem?_eq_getElem _
  generalize (idsR n.bridges)[l.a.toNat]'(by have:=hl.a1;have:=hl.a0;omega)=ra at hxa
  generalize (idsR n.bridges)[l.b.toNat]'(by have:=hl.b1;have:=hl.b0;omega)=rb at hxb
  have hbe:=bytes_Equal ra rb
  have hlv:liveB n.bridges l=(l.up && decide (ra=rb)):=by with_unfolding_all (unfold liveB;rw[hxa,hxb];simp)
  rw[hlv]at hst
  generalize (n.links.take k).filter (liveB n.bridges)=ls at hst hle
  have hstep:=famX_step (ls:=ls) hl
  obtain⟨a,pa,b,pb,cost,up⟩:=l
  cases up with
  | false =>
   simp only[Bool.false_and,Bool.false_eq_true,if_false,List.append_nil]at hst
   repeat' (first|(apply dt rfl;case h=>exact S_alloc _ (famS_lo endV 4 (by decide) rfl))|refine qU ?_|((first|apply dX rfl|apply Da rfl rfl|apply Db rfl rfl qN);(focus ((try intro hg);first|exact as_bool (S_lss rfl rfl) (decide_eq_true (by omega:(k:Int)<((n.links.map linkV).length:Int)))|exact S_ixM rfl rfl (by omega) hx|exact qM));constructor)|refine qP ?_)
   refine loop_again (k+1) hlt (by omega) ?_
   rw[hst]
   refine Wk_famId endV 4 rfl rfl ?_ (fun k r h=>?_) ?_ ?_
   ·exact famS_950 endV 4 rfl
   ·simp (discharger:=decide) only[mem_hi]
    exact famS_row endV 4 rfl h
   ·(repeat' (first|exact trivial|rfl|exact listLe_map _|exact⟨_,rfl,.inl rfl⟩|exact⟨_,rfl,.inr (.inl rfl)⟩|exact⟨_,rfl,.inr (.inr rfl)⟩|refine⟨_,_,rfl,rfl,?_⟩|exact⟨_,rfl,rfl⟩|exact⟨_,_,_,_,rfl,rfl,rfl⟩|exact⟨_,rfl⟩|exact⟨_,_,rfl⟩|apply And.intro))
   ·(repeat' (first|exact trivial|rfl|exact listLe_map _|exact⟨_,rfl,.inl rfl⟩|exact⟨_,rfl,.inr (.inl rfl)⟩|exact⟨_,rfl,.inr (.inr rfl)⟩|refine⟨_,_,rfl,rfl,?_⟩|exact⟨_,rfl,rfl⟩|exact⟨_,_,_,_,rfl,rfl,rfl⟩|exact⟨_,rfl⟩|exact⟨_,_,rfl⟩|apply And.intro))
  | true =>
   simp only[Bool.true_and,decide_eq_true_eq]at hst
   by_cases hr:ra=rb
   ·subst hr
    rw[if_pos rfl]at hst
    rw[decide_eq_true rfl]at hbe
    obtain⟨A,rfl⟩:∃ A:Nat,a=(A:Int):=⟨a.toNat,by have:=hl.a0;simp only at this;omega⟩
    obtain⟨B,rfl⟩:∃ B:Nat,b=(B:Int):=⟨b.toNat,by have:=hl.b0;simp only at this;omega⟩
    have hAn:A<nb:=by have:=hl.a1;simp only at this;omega
    have hBn:B<nb:=by have:=hl.b1;simp only at this;omega
    have hAB:A≠B:=by have:=hl.ne;simp only at this;omega
    simp only[Int.toNat_natCast]at hstep
    have gA:(famX nb ls)[A]? = some (rawE ls A):=famX_get hAn
    have gB:(famX nb ls)[B]? = some (rawE ls B):=famX_get hBn
    have lA:=rawE_le ls A
    have lB:=rawE_le ls B
    have hXl:(famX nb ls).length=nb:=famX_len nb ls
    generalize rawE ls A=RA at gA lA hstep
    generalize rawE ls B=RB at gB lB hstep
    generalize famX nb ls=X at gA gB hXl hstep
    refine DW_famTake endV 4 (env' := [(0,.dat false (.rp n.cells)),(1,.dat false (.slice ((idsR n.bridges).map bytesR))),(5,.sl 950 nb),(19,.dat false (.slice (n.links.map linkV))),(20,.dat true (.int .i64 (n.links.map linkV).length)),(21,.dat true (.int .i64 k))]) (pre' := []) A gA rfl rfl rfl (fun T=>by(repeat' (first|exact trivial|rfl|exact listLe_map _|exact⟨_,rfl,.inl rfl⟩|exact⟨_,rfl,.inr (.inl rfl)⟩|exact⟨_,rfl,.inr (.inr rfl)⟩|refine⟨_,_,rfl,rfl,?_⟩|exact⟨_,rfl,rfl⟩|exact⟨_,_,_,_,rfl,rfl,rfl⟩|exact⟨_,rfl⟩|exact⟨_,_,rfl⟩|apply And.intro))) (fun T=>by(repeat' (first|exact trivial|rfl|exact listLe_map _|exact⟨_,rfl,.inl rfl⟩|exact⟨_,rfl,.inr (.inl rfl)⟩|exact⟨_,rfl,.inr (.inr rfl)⟩|refine⟨_,_,rfl,rfl,?_⟩|exact⟨_,rfl,rfl⟩|exact⟨_,_,_,_,rfl,rfl,rfl⟩|exact⟨_,rfl⟩|exact⟨_,_,rfl⟩|apply And.intro))) (fun T hT0 hT=>?_)
    have hg:=set_get (xs:=X) (d := .own 960 0 0 RA.length) (A:=A) (by omega)
    have hb:=set_ble (xs:=X) (d := .own 960 0 0 RA.length) (A:=A) (by omega)
    have hsp:=set_splice (xs:=X) (d := .own 960 0 0 RA.length) (d' := .own 960 1 0 (RA++[(⟨pa,cost,B,pb⟩:End)]).length) (A:=A) (by omega)
    generalize (ctrD X).set A (.own 960 0 0 RA.length)=CS at hg hb hsp
    dsimp only[List.nil_append]
    repeat' (first|refine DW_mark 960 (bx := .row 1 false true 4 ((RA++[(⟨pa,cost,B,pb⟩:End)]).map endV)) rfl ?_|(apply dt rfl;case h=>exact S_alloc _ (hT0 _ (by decide)))|refine qU ?_|((first|apply dX rfl|apply Da rfl rfl|apply Db rfl rfl qN);(focus ((try intro hg);first|exact as_bool (S_lss rfl rfl) (decide_eq_true (by omega:(k:Int)<((n.links.map linkV).length:Int)))|exact S_ixM rfl rfl (by omega) hx|exact S_ixM (f:=bytesR) rfl rfl hl.a0 hxa|exact S_ixM (f:=bytesR) rfl rfl hl.b0 hxb|exact S_call hbe rfl|exact S_ix_sl rfl rfl hl.a0 hl.a1|exact S_load_ptr (d := .own 960 0 0 RA.length) rfl rfl hg|exact S_appM (f:=endV) (us:=RA) (bs := [(⟨pa,cost,B,pb⟩:End)]) rfl rfl (.dat _ _) rfl rfl (.inr ⟨rfl,inferInstance⟩) rfl (by simp only[List.length_singleton];omega)|exact S_store rfl rfl rfl rfl rfl hb|exact qM));constructor)|refine qP ?_)
    intro _
    refine DW_weak (Wk_famPut endV 4 A (env' := [(7,.ptr 7 0),(0,.dat false (.rp n.cells)),(1,.dat false (.slice ((idsR n.bridges).map bytesR))),(5,.sl 950 nb),(19,.dat false (.slice (n.links.map linkV))),(20,.dat true (.int .i64 (n.links.map linkV).length)),(21,.dat true (.int .i64 k))]) (pre' := [(7,.cells false true ((linkV ⟨A,pa,B,pb,cost,true⟩).map (.dat false)))]) (xs:=X) (r':=RA++[(⟨pa,cost,B,pb⟩:End)]) (by omega) rfl rfl rfl rfl hsp (fun k r h1 h2=>?_) kq kq) ?_
    ·simp (discharger:=decide) only[mem_hi]
     exact hT k r h1 h2
    show DW _ _ _ ⟨_,_,93⟩
    have gB':(X.set A (RA++[(⟨pa,cost,B,pb⟩:End)]))[B]? = some RB:=by rw[List.getElem?_set_ne hAB];exact gB
    have hXl':(X.set A (RA++[(⟨pa,cost,B,pb⟩:End)])).length=nb:=by rw[List.length_set];exact hXl
    generalize X.set A (RA++[(⟨pa,cost,B,pb⟩:End)])=X' at gB' hXl' hstep
    clear hg hb hsp hT hT0 T CS gA gB hXl X
    refine DW_famTake endV 4 (env' := [(7,.ptr 7 0),(0,.dat false (.rp n.cells)),(1,.dat false (.slice ((idsR n.bridges).map bytesR))),(5,.sl 950 nb),(19,.dat false (.slice (n.links.map linkV))),(20,.dat true (.int .i64 (n.links.map linkV).length)),(21,.dat true (.int .i64 k))]) (pre' := [(7,.cells false true ((linkV ⟨A,pa,B,pb,cost,true⟩).map (.dat false)))]) B gB' rfl rfl rfl (fun T=>by(repeat' (first|exact trivial|rfl|exact listLe_map _|exact⟨_,rfl,.inl rfl⟩|exact⟨_,rfl,.inr (.inl rfl)⟩|exact⟨_,rfl,.inr (.inr rfl)⟩|refine⟨_,_,rfl,rfl,?_⟩|exact⟨_,rfl,rfl⟩|exact⟨_,_,_,_,rfl,rfl,rfl⟩|exact⟨_,rfl⟩|exact⟨_,_,rfl⟩|apply And.intro))) (fun T=>by(repeat' (first|exact trivial|rfl|exact listLe_map _|exact⟨_,rfl,.inl rfl⟩|exact⟨_,rfl,.inr (.inl rfl)⟩|exact⟨_,rfl,.inr (.inr rfl)⟩|refine⟨_,_,rfl,rfl,?_⟩|exact⟨_,rfl,rfl⟩|exact⟨_,_,_,_,rfl,rfl,rfl⟩|exact⟨_,rfl⟩|exact⟨_,_,rfl⟩|apply And.intro))) (fun T hT0 hT=>?_)
    have hg:=set_get (xs:=X') (d := .own 960 0 0 RB.length) (A:=B) (by omega)
    have hb:=set_ble (xs:=X') (d := .own 960 0 0 RB.length) (A:=B) (by omega)
    have hsp:=set_splice (xs:=X') (d := .own 960 0 0 RB.length) (d' := .own 960 1 0 (RB++[(⟨pb,cost,A,pa⟩:End)]).length) (A:=B) (by omega)
    generalize (ctrD X').set B (.own 960 0 0 RB.length)=CS at hg hb hsp
    dsimp only[List.cons_append,List.nil_append]
    repeat' (first|refine DW_mark 960 (bx := .row 1 false true 4 ((RB++[(⟨pb,cost,A,pa⟩:End)]).map endV)) rfl ?_|refine qU ?_|((first|apply dX rfl|apply Da rfl rfl|apply Db rfl rfl qN);(focus ((try intro hg);first|exact S_ix_sl rfl rfl hl.b0 hl.b1|exact S_load_ptr (d := .own 960 0 0 RB.length) rfl rfl hg|exact S_appM (f:=endV) (us:=RB) (bs := [(⟨pb,cost,A,pa⟩:End)]) rfl rfl (.dat _ _) rfl rfl (.inr ⟨rfl,inferInstance⟩) rfl (by simp only[List.length_singleton];omega)|exact S_store rfl rfl rfl rfl rfl hb|exact qM));constructor)|refine qP ?_)
    intro _
    refine DW_weak (Wk_famPut endV 4 B (env' := [(0,.dat false (.rp n.cells)),(1,.dat false (.slice ((idsR n.bridges).map bytesR))),(5,.sl 950 nb),(19,.dat false (.slice (n.links.map linkV))),(20,.dat true (.int .i64 (n.links.map linkV).length)),(21,.dat true (.int .i64 k))]) (pre' := []) (xs:=X') (r':=RB++[(⟨pb,cost,A,pa⟩:End)]) (by omega) rfl rfl rfl rfl hsp (fun k r h1 h2=>?_) kq kq) ?_
    ·simp (discharger:=decide) only[mem_hi]
     exact hT k r h1 h2
    show DW _ _ _ ⟨_,_,93⟩
    rw[hstep]
    repeat' (first|refine qU ?_|((first|apply dX rfl|apply Da rfl rfl|apply Db rfl rfl qN);(focus ((try intro hg);first|exact qM));constructor)|refine qP ?_)
    refine loop_again (k+1) hlt (by omega) ?_
    rw[hst]
    refine Wk_famId endV 4 rfl rfl ?_ (fun k r h=>?_) ?_ ?_
    ·exact famS_950 endV 4 rfl
    ·exact famS_row endV 4 rfl h
    ·(repeat' (first|exact trivial|rfl|exact listLe_map _|exact⟨_,rfl,.inl rfl⟩|exact⟨_,rfl,.inr (.inl rfl)⟩|exact⟨_,rfl,.inr (.inr rfl)⟩|refine⟨_,_,rfl,rfl,?_⟩|exact⟨_,rfl,rfl⟩|exact⟨_,_,_,_,rfl,rfl,rfl⟩|exact⟨_,rfl⟩|exact⟨_,_,rfl⟩|apply And.intro))
    ·(repeat' (first|exact trivial|rfl|exact listLe_map _|exact⟨_,rfl,.inl rfl⟩|exact⟨_,rfl,.inr (.inl rfl)⟩|exact⟨_,rfl,.inr (.inr rfl)⟩|refine⟨_,_,rfl,rfl,?_⟩|exact⟨_,rfl,rfl⟩|exact⟨_,_,_,_,rfl,rfl,rfl⟩|exact⟨_,rfl⟩|exact⟨_,_,rfl⟩|apply And.intro))
   ·rw[if_neg hr,List.append_nil]at hst
    rw[decide_eq_false hr]at hbe
    repeat' (first|(apply dt rfl;case h=>exact S_alloc _ (famS_lo endV 4 (by decide) rfl))|refine qU ?_|((first|apply dX rfl|apply Da rfl rfl|apply Db rfl rfl qN);(focus ((try intro hg);first|exact as_bool (S_lss rfl rfl) (decide_eq_true (by omega:(k:Int)<((n.links.map linkV).length:Int)))|exact S_ixM rfl rfl (by omega) hx|exact S_ixM (f:=bytesR) rfl rfl hl.a0 hxa|exact S_ixM (f:=bytesR) rfl rfl hl.b0 hxb|exact S_call hbe rfl|exact qM));constructor)|refine qP ?_)
    refine loop_again (k+1) hlt (by omega) ?_
    rw[hst]
    refine Wk_famId endV 4 rfl rfl ?_ (fun k r h=>?_) ?_ ?_
    ·exact famS_950 endV 4 rfl
    ·simp (discharger:=decide) only[mem_hi]
     exact famS_row endV 4 rfl h
    ·(repeat' (first|exact trivial|rfl|exact listLe_map _|exact⟨_,rfl,.inl rfl⟩|exact⟨_,rfl,.inr (.inl rfl)⟩|exact⟨_,rfl,.inr (.inr rfl)⟩|refine⟨_,_,rfl,rfl,?_⟩|exact⟨_,rfl,rfl⟩|exact⟨_,_,_,_,rfl,rfl,rfl⟩|exact⟨_,rfl⟩|exact⟨_,_,rfl⟩|apply And.intro))
    ·(repeat' (first|exact trivial|rfl|exact listLe_map _|exact⟨_,rfl,.inl rfl⟩|exact⟨_,rfl,.inr (.inl rfl)⟩|exact⟨_,rfl,.inr (.inr rfl)⟩|refine⟨_,_,rfl,rfl,?_⟩|exact⟨_,rfl,rfl⟩|exact⟨_,_,_,_,rfl,rfl,rfl⟩|exact⟨_,rfl⟩|exact⟨_,_,rfl⟩|apply And.intro))
 ·have he:(n.links.take k).filter (liveB n.bridges)=liveL n:=by rw[List.take_of_length_le (by omega)];with_unfolding_all rfl
  rw[he]
  have hXl:(famX nb (liveL n)).length=nb:=famX_len nb _
  have hXg:∀ i,i<nb→(famX nb (liveL n))[i]? = some (rawE (liveL n) i):=fun i h=>famX_get h
  generalize famX nb (liveL n)=X at hXl hXg
  repeat' (first|refine qU ?_|((first|apply dX rfl|apply Da rfl rfl|apply Db rfl rfl qN);(focus ((try intro hg);first|exact as_bool (S_lss rfl rfl) (decide_eq_false (by omega:¬(k:Int)<((n.links.map linkV).length:Int)))|exact S_len_sl rfl|exact qM));constructor)|refine qP ?_)
  refine DW_loop (fun j:Nat=>⟨[(5,.sl 950 nb),(83,.sl 950 nb),(84,.dat true (.int .i64 nb)),(85,.dat true (.int .i64 j))],famS endV 4 [] (srtX X j),93⟩)
   (fun j=>j≤nb) (fun j=>nb-j) 0 (Nat.zero_le _)
   (by
    show Wk _ ⟨_,famS endV 4 [] (srtX X 0),93⟩
    rw[srtX_zero]
    exact Wk_famId endV 4 rfl rfl (famS_950 endV 4 rfl) (fun k r h=>famS_row endV 4 rfl h) kq kq) (fun j hj=>?_)
  have hYl:(srtX X j).length=nb:=by rw[srtX_len];exact hXl
  by_cases hlj:j<nb
  ·have hr:(srtX X j)[j]? = some (rawE (liveL n) j):=srtX_at (hXg j hlj)
   have hnx:=srtX_set (hXg j hlj)
   have hsj:=hs j hlj
   generalize srtX X j=Y at hr hnx hYl
   generalize rawE (liveL n) j=R at hr hnx hsj
   refine DW_famTake endV 4 (env' := [(5,.sl 950 nb),(83,.sl 950 nb),(84,.dat true (.int .i64 nb)),(85,.dat true (.int .i64 j))]) (pre' := []) j hr rfl rfl rfl (fun T=>by(repeat' (first|exact trivial|rfl|exact listLe_map _|exact⟨_,rfl,.inl rfl⟩|exact⟨_,rfl,.inr (.inl rfl)⟩|exact⟨_,rfl,.inr (.inr rfl)⟩|refine⟨_,_,rfl,rfl,?_⟩|exact⟨_,rfl,rfl⟩|exact⟨_,_,_,_,rfl,rfl,rfl⟩|exact⟨_,rfl⟩|exact⟨_,_,rfl⟩|apply And.intro))) (fun T=>by(repeat' (first|exact trivial|rfl|exact listLe_map _|exact⟨_,rfl,.inl rfl⟩|exact⟨_,rfl,.inr (.inl rfl)⟩|exact⟨_,rfl,.inr (.inr rfl)⟩|refine⟨_,_,rfl,rfl,?_⟩|exact⟨_,rfl,rfl⟩|exact⟨_,_,_,_,rfl,rfl,rfl⟩|exact⟨_,rfl⟩|exact⟨_,_,rfl⟩|apply And.intro))) (fun T hT0 hT=>?_)
   have hg:=set_get (xs:=Y) (d := .own 960 0 0 R.length) (A:=j) (by omega)
   have hcs:(ctrD Y).set j (.own 960 0 0 R.length)=(ctrD Y).set j (.own 960 0 0 (sortE R).length):=by rw[sortE_len]
   generalize (ctrD Y).set j (.own 960 0 0 R.length)=CS at hg hcs
   dsimp only[List.nil_append]
   repeat' (first|refine qU ?_|((first|apply dX rfl|apply Da rfl rfl|apply Db rfl rfl qN);(focus ((try intro hg);first|exact as_bool (S_lss rfl rfl) (decide_eq_true (by omega:(j:Int)<(nb:Int)))|exact S_ix_sl rfl rfl (by omega) (by omega)|exact S_load_ptr (d := .own 960 0 0 R.length) rfl rfl hg|exact S_callI 960 hsj rfl rfl|exact qM));constructor)|refine qP ?_)
   refine loop_again (j+1) hlj (by omega) ?_
   rw[←hnx]
   refine Wk_famPut endV 4 j (by omega) rfl rfl rfl rfl hcs (fun k r h1 h2=>?_) kq kq
   simp (discharger:=decide) only[mem_hi]
   exact hT k r h1 h2
  ·refine DW_famOut endV 4 5 rfl rfl hYl.symm (fun M=>?_)
   have hall:srtX X j=X.map sortE:=by rw[show j=X.length by omega];exact srtX_all X
   rw[hall]
   repeat' (first|refine qU ?_|((first|apply dX rfl|apply Da rfl rfl|apply Db rfl rfl qN);(focus ((try intro hg);first|exact as_bool (S_lss rfl rfl) (decide_eq_false (by omega:¬(j:Int)<(nb:Int)))|exact qM));constructor)|refine qP ?_)
   refine ret1 rfl (.inl rfl) ?_
   rfl
end Go.Proofs.YtcdhlofhhcgohaaGreat
namespace Go.Proofs.YtcdhlofhhcgohaaGreat
open Go.RowKit
theorem plan_Ends (n:Net) (h:n.good):FnF Tryz.prog 55 [.rp n.cells,.slice ((idsR n.bridges).map bytesR)] (.slice (((List.range n.bridges.length).map (endsOf n)).map endsRow)) :=
 plan_EndsH n h.lk h.nl h.nb fun i _=>ends_SortFunc _ (fun e he=>(rawE_ok h he).1) (by
  have h1:=rawE_le (liveL n) i
  have h2:(liveL n).length≤n.links.length:=List.length_filter_le _ _
  have:=h.nl
  omega) (fun x hx y hy hp=>h.end_one hx hy hp)
attribute [local irreducible] SStep DW DWin DOps thenQ inBlk loopQ retQ retQG FnF FnG FnI Wk IntKind.wrap IntKind.andI IntKind.orI IntKind.xorI IntKind.andNotI IntKind.shlI IntKind.shrI Net.wrong Bridge.id Bridge.prio identR sortE sortI rawE rawP idsR liveB roleOf rolesP endsOf portsOf saysN chooseS offersOf mix
end Go.Proofs.YtcdhlofhhcgohaaGreat
