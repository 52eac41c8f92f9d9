/- Contract: the document's On, at a net that is wrong and at too many doings. -/
import Derived.Test.YtcdhlofhhcgohaaGreatwcLnR
import Derived.Test.YtcdhlofhhcgohaaGreatwcTlo
import Derived.Test.YtcdhlofhhcgohaaGreatwdLnG
import Derived.Test.YtcdhlofhhcgohaaGreatwdPlN
import Derived.Test.YtcdhlofhhcgohaaGreatwdRfc
namespace Go.Proofs.YtcdhlofhhcgohaaGreat
open Go.RowKit
attribute [local irreducible] SStep DW DWin DOps zaG zaE zaJ retQ zaN FnF FnG FnI Wk IntKind.wrap IntKind.andI IntKind.orI IntKind.xorI IntKind.andNotI IntKind.shlI IntKind.shrI zah idN za3 zch ze0 zaK mix zcy
set_option maxHeartbeats 8000000 in
theorem zqh (n:Net) (h:n.good) (t:List (List Mind)) (ht:goodT n t) :
  FnG Tryz.prog 60 (zbM [false,false,true] [n.v,.slice ((za3 n).map zar),zaO t]) [] (.dat true (zaO (zc0 n t))) []:=by
 refine zbj Tryz.func60 rfl rfl rfl ?_
 simp only[zbM,envD,zaO]
 have hmt:(t.map zae).length=t.length:=by simp
 have hmb:(n.bridges.map zaj).length=n.bridges.length:=by simp
 have hnb:=h.nb
 have htl:=ht.l
 have hll:(za3 n).length≤40:=by with_unfolding_all exact Nat.le_trans (List.length_filter_le _ _) h.nl
 repeat' (first|refine qU ?_|refine qW ?_|((first|apply dX rfl|apply Da rfl rfl|apply Db rfl rfl qN);(focus ((try intro hg);first|exact qMo));constructor)|refine qP ?_)
 refine zag (fun q:Nat×List (List Mind)=>⟨[(1,.dat false (.slice ((za3 n).map zar))),(3,.ptr 3 0),(6,.ptr 6 0),(7,.ptr 7 0),(24,.dat true (.slice (t.map zae))),(25,.dat true (.int .i64 (t.map zae).length)),(26,.dat true (.int .i64 q.1))],[(3,.cells false true (n.cells.map (.dat false))),(6,.cells false true [.nil]),(7,.cells false true [.own 900 q.2.length 0 q.2.length]),(900,.row q.2.length false true 1 (q.2.map zae))],142⟩)
  (fun q=>q.1≤t.length∧q.2=(zc0 n t).take q.1) (fun q=>t.length-q.1) (0,[]) ⟨Nat.zero_le _,rfl⟩
  (Wk_g (fun g=>if g=900 then none else some g) rfl rfl kq) (fun q hR=>?_)
 obtain⟨k,us⟩:=q
 obtain⟨hk,hus⟩:=hR
 simp only at hk hus
 dsimp only
 have htk:(zc0 n t).length=t.length:=by simp[zc0]
 have hul:us.length=k:=by rw[hus,List.length_take];omega
 by_cases hlt:k<t.length
 ·have hx:t[(k:Int).toNat]? = some t[k]:=by simp[hlt]
  have hx':t[k]? = some t[k]:=by simp[hlt]
  obtain⟨hl,hm⟩:=ht.m t[k] (List.getElem_mem hlt)
  have hst:(zc0 n t).take (k+1)=us++[zc8 n k t[k]]:=by
   have:(zc0 n t)[k]? = some (zc8 n k t[k]):=by
    unfold zc0
    rw[List.getElem?_map,List.getElem?_range hlt,Option.map_some,hx'];rfl
   rw[List.take_add_one,this,hus];rfl
  generalize t[k]=l at hx hl hm hst
  have hml:(l.map Mind.cells).length=l.length:=by simp
  repeat' (first|refine qU ?_|refine qW ?_|(apply dt rfl;case h=>first|exact ziX (f:=Vec.cells) (l:=l.length) (c:=l.length) Vec.zero _ rfl rfl (by rw[hml]) (by rw[hml]) (Nat.le_refl _) (by omega) rfl rfl|exact ziX (f:=zad) (l:=l.length) (c:=l.length) (0:Int) _ rfl rfl (by rw[hml]) (by rw[hml]) (Nat.le_refl _) (by omega) rfl rfl)|((first|apply dX rfl|apply Da rfl rfl|apply Db rfl rfl qN);(focus ((try intro hg);first|exact zaf rfl rfl (by omega) hx|exact ziX (f:=Vec.cells) (l:=l.length) (c:=l.length) Vec.zero _ rfl rfl (by rw[hml]) (by rw[hml]) (Nat.le_refl _) (by omega) rfl rfl|exact ziX (f:=zad) (l:=l.length) (c:=l.length) (0:Int) _ rfl rfl (by rw[hml]) (by rw[hml]) (Nat.le_refl _) (by omega) rfl rfl|exact qMo));constructor)|refine qP ?_)
  have e1:(l.map (·.vec)).length=(List.replicate l.length Vec.zero).length:=by simp
  have e2:(l.map (·.age)).length=(List.replicate l.length (0:Int)).length:=by simp
  refine zag (fun j:Nat=>⟨[(1,.dat false (.slice ((za3 n).map zar))),(3,.ptr 3 0),(6,.ptr 6 0),(7,.ptr 7 0),(24,.dat true (.slice (t.map zae))),(25,.dat true (.int .i64 (t.map zae).length)),(26,.dat true (.int .i64 k)),(8,.dat true (.int .i64 k)),(9,.dat true (.slice (l.map Mind.cells))),(10,.own 33 0 0 l.length),(11,.own 36 0 0 l.length),(37,.dat true (.slice (l.map Mind.cells))),(38,.dat true (.int .i64 (l.map Mind.cells).length)),(39,.dat true (.int .i64 j))],[(3,.cells false true (n.cells.map (.dat false))),(6,.cells false true [.nil]),(7,.cells false true [.own 900 us.length 0 us.length]),(900,.row us.length false true 1 (us.map zae)),(33,.row 0 false true 4 ((mix (l.map (·.vec)) (List.replicate l.length Vec.zero) j).map Vec.cells)),(36,.row 0 false true 1 ((mix (l.map (·.age)) (List.replicate l.length (0:Int)) j).map zad))],142⟩)
   (fun j=>j≤l.length) (fun j=>l.length-j) 0 (Nat.zero_le _) (by rw[zgo,zgo];exact Wk_g some rfl rfl kqp) (fun j hj=>?_)
  by_cases hlj:j<l.length
  ·have hy:l[(j:Int).toNat]? = some l[j]:=by simp[hlj]
   have a1:(l.map (·.vec))[j]? = some l[j].vec:=by simp[hlj]
   have a2:(l.map (·.age))[j]? = some l[j].age:=by simp[hlj]
   have s1:=zjf e1 a1
   have s2:=zjf e2 a2
   have u1:(mix (l.map (·.vec)) (List.replicate l.length Vec.zero) j)[(j:Int).toNat]? = some .zero:=by rw[Int.toNat_natCast,zje e1];simp[hlj]
   have u2:(mix (l.map (·.age)) (List.replicate l.length (0:Int)) j)[(j:Int).toNat]? = some 0:=by rw[Int.toNat_natCast,zje e2];simp[hlj]
   generalize l[j]=m at hy s1 s2
   repeat' (first|refine qU ?_|refine qW ?_|((first|apply dX rfl|apply Da rfl rfl|apply Db rfl rfl qN);(focus ((try intro hg);first|exact zaf rfl rfl (by omega) hy|exact zc7 rfl rfl rfl (by omega) (by omega)|exact zba (f:=Vec.cells) (a:=m.vec) rfl rfl u1 rfl rfl (.inr ⟨rfl,inferInstance⟩) rfl rfl|exact zba (f:=zad) (a:=m.age) rfl rfl u2 rfl rfl (.inr ⟨rfl,inferInstance⟩) rfl rfl|exact qMo));constructor)|refine qP ?_)
   refine zaa (j+1) hlj (by omega) ?_
   rw[←s1,←s2]
   exact Wk_g some rfl rfl kqp
  ·rw [zjd e1 (by simp;omega),zjd e2 (by simp;omega)]
   repeat' (first|refine qU ?_|refine qW ?_|((first|apply dX rfl|apply Da rfl rfl|apply Db rfl rfl qN);(focus ((try intro hg);first|exact qMo));constructor)|refine qP ?_)
   refine zag (fun q:Nat×List Mind=>⟨[(1,.dat false (.slice ((za3 n).map zar))),(3,.ptr 3 0),(6,.ptr 6 0),(7,.ptr 7 0),(24,.dat true (.slice (t.map zae))),(25,.dat true (.int .i64 (t.map zae).length)),(26,.dat true (.int .i64 k)),(8,.dat true (.int .i64 k)),(9,.dat true (.slice (l.map Mind.cells))),(10,.own 33 0 0 l.length),(11,.own 36 0 0 l.length),(14,.own 902 0 0 q.2.length),(56,.dat false (.slice (n.bridges.map zaj))),(57,.dat true (.int .i64 (n.bridges.map zaj).length)),(58,.dat true (.int .i64 q.1))],[(3,.cells false true (n.cells.map (.dat false))),(6,.cells false true [.nil]),(7,.cells false true [.own 900 us.length 0 us.length]),(900,.row us.length false true 1 (us.map zae)),(33,.row 0 false true 4 ((l.map (·.vec)).map Vec.cells)),(36,.row 0 false true 1 ((l.map (·.age)).map zad)),(902,.row 0 false true 9 (q.2.map Mind.cells))],142⟩)
    (fun q=>q.1≤l.length∧q.2=(zc8 n k l).take q.1) (fun q=>l.length-q.1) (0,[]) ⟨Nat.zero_le _,rfl⟩
    (Wk_g (fun g=>if g=902 then none else some g) rfl rfl kqp) (fun q hR=>?_)
   obtain⟨i,vs⟩:=q
   obtain⟨hi,hvs⟩:=hR
   simp only at hi hvs
   dsimp only
   have htt:(zc8 n k l).length=l.length:=by simp[zc8]
   have hvl:vs.length=i:=by rw[hvs,List.length_take];omega
   by_cases hli:i<l.length
   ·have hib:i<n.bridges.length:=by omega
    have hb:n.bridges[(i:Int).toNat]? = some n.bridges[i]:=by simp[hib]
    have hb':n.bridges[i]? = some n.bridges[i]:=by simp[hib]
    have hbo:=h.br n.bridges[i] (List.getElem_mem hib)
    have hidn:=zmH (tree:=(k:Int)) hb'
    have hid:=zh9 n.bridges[i] hbo k
    rw[←hidn]at hid
    generalize n.bridges[i]=b at hb hid
    have hz:l[(i:Int).toNat]? = some l[i]:=by simp[hli]
    have hz':l[i]? = some l[i]:=by simp[hli]
    have hgm:=hm i l[i] hz'
    have hst2:(zc8 n k l).take (i+1)=vs++[zdf n k i (zaL n i) l]:=by
     have:(zc8 n k l)[i]? = some (zdf n k i (zaL n i) l):=by
      unfold zc8
      rw[List.getElem?_map,List.getElem?_range hli];rfl
     rw[List.take_add_one,this,hvs];rfl
    rw[zrW h,hz',Option.getD_some]at hst2
    have hof:=zmc (za3 n) hll i (l.map (·.vec)) (l.map (·.age)) (by simp) (fun x hx=>by rw[List.length_map,hl];exact h.lk x (zel hx))
    rw[zrV h i hl,←zbp (f:=Vec.cells) (us:=l.map (·.vec)) (n:=l.length) (by simp),←zbp (f:=zad) (us:=l.map (·.age)) (n:=l.length) (by simp)]at hof
    generalize l[i]=a at hz hgm hst2
    generalize zch n i l=os at hof hst2
    generalize idN n k i=me at hid hst2
    have hch:=zmf me os
    generalize hc0:zaK me os=c at hch hst2
    generalize c.says me=v at hch hst2
    obtain⟨cb,cage,cport⟩:=c
    simp only at hch hst2
    have hro:=znX n h (za3 n) hll i v cport os
    have hpl:(zah n.links i).length≤80:=by
     have:=zbz n.links i
     have:=h.nl
     rw[zaW];unfold zcj;rw[List.length_mergeSort];omega
    have hrl:((zah n.links i).map (ze0 (za3 n) i v cport os)).length=(zah n.links i).length:=by simp
    have hap:=hgm.p
    have hac:=hgm.c
    have hab:=hgm.b
    generalize (zah n.links i).map (ze0 (za3 n) i v cport os)=rs at hro hrl hst2
    generalize zah n.links i=ps at hpl hrl hap hac hst2
    have hmr:(rs.map zad).length=rs.length:=by simp
    repeat' (first|refine qU ?_|refine qW ?_|((first|apply dX rfl|apply Da rfl rfl|apply Db rfl rfl qN);(focus ((try intro hg);first|exact zaf rfl rfl (by omega) hb|exact zac hof rfl|exact zaf rfl rfl (by omega) hz|exact zac hid rfl|exact zac hch rfl|exact zac hro rfl|exact qMo));constructor)|refine qP ?_)
    refine zag (fun q:Nat×List Int=>⟨[(1,.dat false (.slice ((za3 n).map zar))),(3,.ptr 3 0),(6,.ptr 6 0),(7,.ptr 7 0),(24,.dat true (.slice (t.map zae))),(25,.dat true (.int .i64 (t.map zae).length)),(26,.dat true (.int .i64 k)),(8,.dat true (.int .i64 k)),(9,.dat true (.slice (l.map Mind.cells))),(10,.own 33 0 0 l.length),(11,.own 36 0 0 l.length),(14,.own 902 0 0 vs.length),(56,.dat false (.slice (n.bridges.map zaj))),(57,.dat true (.int .i64 (n.bridges.map zaj).length)),(58,.dat true (.int .i64 i)),(15,.dat true (.int .i64 i)),(18,.ptr 18 0),(97,.dat true (.slice (rs.map zad))),(98,.dat true (.int .i64 (rs.map zad).length)),(99,.dat true (.int .i64 q.1))],
      [(3,.cells false true (n.cells.map (.dat false))),(6,.cells false true [.nil]),(7,.cells false true [.own 900 us.length 0 us.length]),(900,.row us.length false true 1 (us.map zae)),(33,.row 0 false true 4 ((l.map (·.vec)).map Vec.cells)),(36,.row 0 false true 1 ((l.map (·.age)).map zad)),(902,.row 0 false true 9 (vs.map Mind.cells)),(18,.cells false true (v.cells.map (.dat true)++[.dat true (.int .i64 cage),.dat true (.int .i64 cport),.dat true (.slice (a.ports.map zad)),.dat true (.slice (rs.map zad)),.own 903 q.2.length 0 q.2.length])),(903,.row q.2.length false true 1 (q.2.map zad))],142⟩)
     (fun q=>q.1≤rs.length∧q.2=(zbL rs a.calm).take q.1) (fun q=>rs.length-q.1) (0,[]) ⟨Nat.zero_le _,rfl⟩
     (Wk_g (fun g=>if g=903 then none else some g) rfl rfl kqp) (fun q hR=>?_)
    obtain⟨j,ws⟩:=q
    obtain⟨hj,hws⟩:=hR
    simp only at hj hws
    dsimp only
    have hwl:ws.length=j:=by rw[hws,List.length_take,zc2];omega
    by_cases hlr:j<rs.length
    ·have hxr:rs[(j:Int).toNat]? = some rs[j]:=by simp[hlr]
     have hxr':rs[j]? = some rs[j]:=by simp[hlr]
     have hxc:a.calm[(j:Int).toNat]? = some (a.calm[j]'(by omega)):=by simp[show j<a.calm.length by omega]
     have hxc':a.calm[j]? = some (a.calm[j]'(by omega)):=by simp[show j<a.calm.length by omega]
     have hcb:=hab (a.calm[j]'(by omega)) (List.getElem_mem _)
     have hst3:=zk4 hxr' hxc'
     generalize rs[j]=r at hxr hst3
     generalize a.calm[j]'(by omega)=cc at hxc hcb hst3
     by_cases hr:r=1∨r=2
     ·by_cases h49:49<cc
      ·have hcm:zcy r cc=50:=by with_unfolding_all (unfold zcy;rw[if_pos hr];split<;>omega)
       rw[hcm]at hst3
       rcases hr with hr|hr
       ·repeat' (first|refine qU ?_|refine qW ?_|((first|apply dX rfl|apply Da rfl rfl|apply Db rfl rfl qN);(focus ((try intro hg);first|exact zaf rfl rfl (by omega) hxr|exact zaf rfl rfl (by omega) hz|exact zaf rfl rfl (by omega) hxc|exact zan (f:=zad) (us:=ws) (bs := [50]) rfl rfl (.dat _ _) rfl rfl (.inr ⟨rfl,inferInstance⟩) rfl (by simp only[List.length_singleton];omega)|exact qMo));constructor)|refine qP ?_)
        exact zaa (j+1,ws++[50]) ⟨hlr,by rw[hws,←hst3]⟩ (by simp only;omega) (Wk_g some rfl rfl kqp)
       ·repeat' (first|refine qU ?_|refine qW ?_|((first|apply dX rfl|apply Da rfl rfl|apply Db rfl rfl qN);(focus ((try intro hg);first|exact zaf rfl rfl (by omega) hxr|exact zaf rfl rfl (by omega) hz|exact zaf rfl rfl (by omega) hxc|exact zan (f:=zad) (us:=ws) (bs := [50]) rfl rfl (.dat _ _) rfl rfl (.inr ⟨rfl,inferInstance⟩) rfl (by simp only[List.length_singleton];omega)|exact qMo));constructor)|refine qP ?_)
        exact zaa (j+1,ws++[50]) ⟨hlr,by rw[hws,←hst3]⟩ (by simp only;omega) (Wk_g some rfl rfl kqp)
      ·have hcm:zcy r cc=cc+1:=by with_unfolding_all (unfold zcy;rw[if_pos hr];split<;>omega)
       rw[hcm]at hst3
       rcases hr with hr|hr
       ·repeat' (first|refine qU ?_|refine qW ?_|((first|apply dX rfl|apply Da rfl rfl|apply Db rfl rfl qN);(focus ((try intro hg);first|exact zaf rfl rfl (by omega) hxr|exact zaf rfl rfl (by omega) hz|exact zaf rfl rfl (by omega) hxc|exact zan (f:=zad) (us:=ws) (bs := [cc+1]) rfl rfl (.dat _ _) rfl rfl (.inr ⟨rfl,inferInstance⟩) rfl (by simp only[List.length_singleton];omega)|exact qMo));constructor)|refine qP ?_)
        exact zaa (j+1,ws++[cc+1]) ⟨hlr,by rw[hws,←hst3]⟩ (by simp only;omega) (Wk_g some rfl rfl kqp)
       ·repeat' (first|refine qU ?_|refine qW ?_|((first|apply dX rfl|apply Da rfl rfl|apply Db rfl rfl qN);(focus ((try intro hg);first|exact zaf rfl rfl (by omega) hxr|exact zaf rfl rfl (by omega) hz|exact zaf rfl rfl (by omega) hxc|exact zan (f:=zad) (us:=ws) (bs := [cc+1]) rfl rfl (.dat _ _) rfl rfl (.inr ⟨rfl,inferInstance⟩) rfl (by simp only[List.length_singleton];omega)|exact qMo));constructor)|refine qP ?_)
        exact zaa (j+1,ws++[cc+1]) ⟨hlr,by rw[hws,←hst3]⟩ (by simp only;omega) (Wk_g some rfl rfl kqp)
     ·have hcm:zcy r cc=0:=by with_unfolding_all (unfold zcy;rw[if_neg hr])
      rw[hcm]at hst3
      repeat' (first|refine qU ?_|refine qW ?_|((first|apply dX rfl|apply Da rfl rfl|apply Db rfl rfl qN);(focus ((try intro hg);first|exact zaf rfl rfl (by omega) hxr|exact zan (f:=zad) (us:=ws) (bs := [0]) rfl rfl (.dat _ _) rfl rfl (.inr ⟨rfl,inferInstance⟩) rfl (by simp only[List.length_singleton];omega)|exact qMo));constructor)|refine qP ?_)
      exact zaa (j+1,ws++[0]) ⟨hlr,by rw[hws,←hst3]⟩ (by simp only;omega) (Wk_g some rfl rfl kqp)
    ·have he:ws=zbL rs a.calm:=by rw[hws,List.take_of_length_le (by rw[zc2];omega)]
     refine zaZ (s':=⟨[(1,.dat false (.slice ((za3 n).map zar))),(3,.ptr 3 0),(6,.ptr 6 0),(7,.ptr 7 0),(24,.dat true (.slice (t.map zae))),(25,.dat true (.int .i64 (t.map zae).length)),(26,.dat true (.int .i64 k)),(8,.dat true (.int .i64 k)),(9,.dat true (.slice (l.map Mind.cells))),(10,.own 33 0 0 l.length),(11,.own 36 0 0 l.length),(14,.own 902 0 0 vs.length),(56,.dat false (.slice (n.bridges.map zaj))),(57,.dat true (.int .i64 (n.bridges.map zaj).length)),(58,.dat true (.int .i64 i)),(15,.dat true (.int .i64 i)),(18,.ptr 18 0),(97,.dat true (.slice (rs.map zad))),(98,.dat true (.int .i64 (rs.map zad).length)),(99,.dat true (.int .i64 j))],
      [(3,.cells false true (n.cells.map (.dat false))),(6,.cells false true [.nil]),(7,.cells false true [.own 900 us.length 0 us.length]),(900,.row us.length false true 1 (us.map zae)),(33,.row 0 false true 4 ((l.map (·.vec)).map Vec.cells)),(36,.row 0 false true 1 ((l.map (·.age)).map zad)),(902,.row 0 false true 9 (vs.map Mind.cells)),(18,.cells false true (v.cells.map (.dat true)++[.dat true (.int .i64 cage),.dat true (.int .i64 cport),.dat true (.slice (a.ports.map zad)),.dat true (.slice (rs.map zad)),.own 903 0 0 ws.length])),(903,.row 0 false true 1 (ws.map zad))],142⟩) (Wk_g some rfl rfl kqp) ?_
     refine zaD 903 (fun _ _ _ h=>by cases h) ?_
     have hww:=zbp (f:=zad) (us:=ws) rfl
     have hel : [[V.int .u64 v.root,V.int .i64 v.cost,V.int .u64 v.bridge,V.int .i64 v.port,V.int .i64 cage,V.int .i64 cport,V.slice (a.ports.map zad),V.slice (rs.map zad),V.slice (((ws.map zad).drop 0).take ws.length)]]=[Mind.mk v cage cport a.ports rs ws].map Mind.cells:=by rw[hww];rfl
     repeat' (first|refine qU ?_|refine qW ?_|((first|apply dX rfl|apply Da rfl rfl|apply Db rfl rfl qN);(focus ((try intro hg);first|exact zan (f:=Mind.cells) (us:=vs) (bs := [⟨v,cage,cport,a.ports,rs,ws⟩]) rfl rfl (.dat _ _) hel rfl (.inl rfl) rfl (by simp only[List.length_singleton];omega)|exact qMo));constructor)|refine qP ?_)
     exact zaa (i+1,vs++[⟨v,cage,cport,a.ports,rs,ws⟩]) ⟨hli,by rw[hst2,he,hap]⟩ (by simp only;omega) (Wk_g some rfl rfl kqp)
   ·have he:vs=zc8 n k l:=by rw[hvs,List.take_of_length_le (by omega)]
    refine zaR 14 rfl rfl (by simp) ?_
    repeat' (first|refine qU ?_|refine qW ?_|((first|apply dX rfl|apply Da rfl rfl|apply Db rfl rfl qN);(focus ((try intro hg);first|exact zan (f:=zae) (us:=us) (bs := [vs]) rfl rfl (.dat _ _) rfl rfl (.inl rfl) rfl (by simp only[List.length_singleton];omega)|exact qMo));constructor)|refine qP ?_)
    exact zaa (k+1,us++[vs]) ⟨hlt,by rw[hst,he]⟩ (by simp only;omega) (Wk_g some rfl rfl kqp)
 ·have he:us=zc0 n t:=by rw[hus,List.take_of_length_le (by omega)]
  refine zaZ (s':=⟨[(6,.ptr 6 0),(7,.ptr 7 0),(25,.dat true (.int .i64 (t.map zae).length)),(26,.dat true (.int .i64 k))],
   [(6,.cells false true [.nil]),(7,.cells false true [.own 900 0 0 us.length]),(900,.row 0 false true 1 (us.map zae))],142⟩) (Wk_g some rfl rfl kqp) ?_
  refine zaD 900 (fun _ _ _ h=>by cases h) ?_
  repeat' (first|refine qU ?_|refine qW ?_|((first|apply dX rfl|apply Da rfl rfl|apply Db rfl rfl qN);(focus ((try intro hg);first|exact qMo));constructor)|refine qP ?_)
  refine gDat (.cellA inferInstance rfl rfl rfl rfl qF .nil) zav ?_
  rw[he]
  show V.agg [V.slice (List.take _ (List.drop 0 _))]=_
  rw[List.drop_zero,List.take_of_length_le (by simp)]
end Go.Proofs.YtcdhlofhhcgohaaGreat
namespace Go.Proofs.YtcdhlofhhcgohaaGreat
open Go.RowKit
attribute [local irreducible] SStep DW DWin DOps zaG zaE zaJ retQ zaN FnF FnG FnI Wk IntKind.wrap IntKind.andI IntKind.orI IntKind.xorI IntKind.andNotI IntKind.shlI IntKind.shrI Net.wrong za3 zah doS
set_option maxHeartbeats 4000000 in
theorem zrX (n:Net) (ht:n.typed) (h0:n.wrong.1≠0) (t:List (List Mind)) (l:List Doing):FnG Tryz.prog 21 (zbM [true,true,false] [n.v,zaO t,.slice (l.map Doing.cells)]) [] (.dat true (onV (none,n.wrong))) []:=by
 refine zbj Tryz.func21 rfl rfl rfl ?_
 simp only[zbM,envD,zaO]
 have hwr:=zb4 n ht.wy
 have h0m:¬n.wrong.1=0:=h0
 clear h0
 generalize n.wrong=f at hwr h0m ⊢
 obtain⟨e,i⟩:=f
 have h0':e≠0:=h0m
 repeat' (first|refine qU ?_|refine qW ?_|((first|apply dX rfl|apply Da rfl rfl|apply Db rfl rfl qN);(focus ((try intro hg);first|exact zac hwr rfl|exact zaq rfl rfl (zet e i)|exact qMo));constructor)|refine qP ?_)
 refine gDat (.cellA inferInstance rfl rfl rfl rfl qF (.cellA inferInstance rfl rfl rfl rfl qF (.cellA inferInstance rfl rfl rfl rfl qF .nil))) zav ?_
 rfl
set_option maxHeartbeats 4000000 in
theorem zrY (n:Net) (ht:n.typed) (h0:n.wrong.1=0) (t:List (List Mind)) (htt:goodT n t) (h1:1≤t.length) (l:List Doing) (hl:30<l.length):FnG Tryz.prog 21 (zbM [true,true,false] [n.v,zaO t,.slice (l.map Doing.cells)]) [] (.dat true (onV (none,(5,0)))) []:=by
 refine zbj Tryz.func21 rfl rfl rfl ?_
 simp only[zbM,envD,zaO]
 have hwr:=zb4 n ht.wy
 rw[Net.wrong_zero h0]at hwr
 have hri:=zhB n ((Net.wrong_iff ht).1 h0).1 t htt h1
 have hml:(l.map Doing.cells).length=l.length:=by simp
 repeat' (first|refine qU ?_|refine qW ?_|((first|apply dX rfl|apply Da rfl rfl|apply Db rfl rfl qN);(focus ((try intro hg);first|exact zac hwr rfl|exact zac hri rfl|exact zaq rfl rfl (zet 5 0)|exact qMo));constructor)|refine qP ?_)
 refine gDat (.cellA inferInstance rfl rfl rfl rfl qF (.cellA inferInstance rfl rfl rfl rfl qF (.cellA inferInstance rfl rfl rfl rfl qF .nil))) zav ?_
 rfl
end Go.Proofs.YtcdhlofhhcgohaaGreat
