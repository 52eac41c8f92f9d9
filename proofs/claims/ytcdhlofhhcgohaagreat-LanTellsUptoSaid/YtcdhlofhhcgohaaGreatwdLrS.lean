/- Contract: the document's Send. -/
import Derived.Test.YtcdhlofhhcgohaaGreatwcLnR
import Derived.Test.YtcdhlofhhcgohaaGreatwcPlV
import Derived.Test.YtcdhlofhhcgohaaGreatwdLnS
import Derived.Test.YtcdhlofhhcgohaaGreatwdRlr
namespace Go.Proofs.YtcdhlofhhcgohaaGreat
open Go.RowKit
theorem znY {n:Net} {t:List (List Mind)} {b vid:Int} {i:Nat} {p:Int} (h:([0]++zah n.links b)[i]? = some p):(([0]++zah n.links b).take (i+1)).map (zbm t b vid)=(([0]++zah n.links b).take i).map (zbm t b vid)++[zbm t b vid p]:=by
 rw[List.take_add_one,h,List.map_append];rfl
theorem ziD {t:List (List Mind)} {b port:Int} {k:Nat} (h:k<t.length):(zaV t b port).take (k+1)=(zaV t b port).take k++[decide (port=0) || zdh t k b port]:=zf0 h
attribute [local irreducible] SStep DW DWin DOps zaG zaE zaJ retQ zaN FnF FnG FnI FnM Wk IntKind.wrap IntKind.andI IntKind.orI IntKind.xorI IntKind.andNotI IntKind.shlI IntKind.shrI Net.wrong Frame.wrong zaQ zbc goS zbw zdh zaV zah
theorem zcf (e at_:Int):FnF Tryz.prog 69 [.int .i64 e,.int .i64 at_] (.tuple [.slice [],.slice [],.bool false,.agg [.int .i64 e,.int .i64 at_]]):=by
 refine zal Tryz.func69 rfl rfl rfl ?_
 simp only[zap]
 repeat' (first|refine qU ?_|((first|apply dX rfl|apply Da rfl rfl|apply Db rfl rfl qN);(focus ((try intro hg);first|exact qM));constructor)|refine qP ?_)
 refine retN (.tmp rfl qF (.tmp rfl qF (.tmp rfl qF (.cellA inferInstance rfl rfl rfl rfl qF .nil)))) ?_
 rfl
set_option maxHeartbeats 4000000 in
theorem znZ (n:Net) (ht:n.typed) (h0:n.wrong.1≠0) (t:List (List Mind)) (bs:List (List Ent)) (frm vid:Int) (f:Frame):FnF Tryz.prog 23 [n.v,zaO t,.slice (bs.map za8),.int .i64 frm,.int .i64 vid,f.v] (Sent.v ⟨[],[],false,n.wrong⟩):=by
 refine zal Tryz.func23 rfl rfl rfl ?_
 simp only[zap,zaO]
 have hw:=zb4 n ht.wy
 have h0m:¬n.wrong.1=0:=h0
 clear h0
 generalize n.wrong=w at hw h0m ⊢
 obtain⟨e,i⟩:=w
 simp only at h0m
 repeat' (first|refine qU ?_|refine qW ?_|((first|apply dX rfl|apply Da rfl rfl|apply Db rfl rfl qN);(focus ((try intro hg);first|exact zac hw rfl|exact zaq rfl rfl (zcf e i)|exact qMo));constructor)|refine qP ?_)
 refine retN (.tmp rfl qF (.tmp rfl qF (.tmp rfl qF (.cellA inferInstance rfl rfl rfl rfl qF .nil)))) ?_
 rfl
set_option maxHeartbeats 4000000 in
theorem zn0 (n:Net) (ht:n.typed) (h0:n.wrong.1=0) (bs:List (List Ent)) (frm vid:Int) (f:Frame):FnF Tryz.prog 23 [n.v,zaO [],.slice (bs.map za8),.int .i64 frm,.int .i64 vid,f.v] (Sent.v (zbU 8)):=by
 refine zal Tryz.func23 rfl rfl rfl ?_
 simp only[zap,zaO]
 have hw:=zb4 n ht.wy
 have hf0:=ziB n
 generalize n.wrong=w at hw h0
 obtain⟨e,i⟩:=w
 simp only at h0
 subst h0
 repeat' (first|refine qU ?_|refine qW ?_|((first|apply dX rfl|apply Da rfl rfl|apply Db rfl rfl qN);(focus ((try intro hg);first|exact zac hw rfl|exact zac hf0 rfl|exact zaq rfl rfl (zcf 8 0)|exact qMo));constructor)|refine qP ?_)
 refine retN (.tmp rfl qF (.tmp rfl qF (.tmp rfl qF (.cellA inferInstance rfl rfl rfl rfl qF .nil)))) ?_
 rfl
set_option maxRecDepth 8000 in
set_option maxHeartbeats 16000000 in
theorem zn1 (n:Net) (ht:n.typed) (h0:n.wrong.1=0) (t:List (List Mind)) (htt:goodT n t) (h1:1≤t.length) (bs0:List (List Ent)) (_hbl:bs0.length≤1048576) (frm vid:Int) (f:Frame) (hf:f.ok) :
  FnG Tryz.prog 23 [.dat false n.v,.dat false (zaO t),.dat false (.slice (bs0.map za8)),.dat false (.int .i64 frm),.dat false (.int .i64 vid),.dat false f.v] [] (.dat false (zjl n t bs0 frm vid f).v) []:=by
 refine zbj Tryz.func23 rfl rfl rfl ?_
 simp only[envD,zaO]
 have hg:=((Net.wrong_iff ht).1 h0).1
 have hwr:=zb4 n ht.wy
 rw[show n.wrong=(0,n.wrong.2)from Prod.ext h0 rfl]at hwr
 generalize n.wrong.2=w2 at hwr
 have hft:=zhB n hg t htt h1
 have hmb:(bs0.map za8).length=bs0.length:=by simp
 have hmn:(n.bridges.map zaj).length=n.bridges.length:=by simp
 have hmt:(t.map zae).length=t.length:=by simp
 have hnb:=hg.nb
 have htl:=htt.l
 have hfw:=zio f hf
 unfold zjl
 by_cases c1:bs0.length≠n.bridges.length
 ·have c1':¬bs0.length=n.bridges.length:=c1
  rw[if_pos c1]
  repeat' (first|refine qU ?_|refine qW ?_|((first|apply dX rfl|apply Da rfl rfl|apply Db rfl rfl qN);(focus ((try intro hg);first|exact zac hwr rfl|exact zac hft rfl|exact zaq rfl rfl (zcf 8 0)|exact qMo));constructor)|refine qP ?_)
  exact gOld (.tmp rfl (.tmp rfl (.tmp rfl (.cellA inferInstance rfl rfl rfl rfl .nil)))) zav rfl
 rw[if_neg c1]
 have c1:bs0.length=n.bridges.length:=Decidable.not_not.1 c1
 by_cases c2:frm<0∨(n.bridges.length:Int)≤frm
 ·rw[if_pos c2]
  by_cases c2a:frm<0
  ·repeat' (first|refine qU ?_|refine qW ?_|((first|apply dX rfl|apply Da rfl rfl|apply Db rfl rfl qN);(focus ((try intro hg);first|exact zac hwr rfl|exact zac hft rfl|exact zaq rfl rfl (zcf 6 0)|exact qMo));constructor)|refine qP ?_)
   exact gOld (.tmp rfl (.tmp rfl (.tmp rfl (.cellA inferInstance rfl rfl rfl rfl .nil)))) zav rfl
  ·repeat' (first|refine qU ?_|refine qW ?_|((first|apply dX rfl|apply Da rfl rfl|apply Db rfl rfl qN);(focus ((try intro hg);first|exact zac hwr rfl|exact zac hft rfl|exact zaq rfl rfl (zcf 6 0)|exact qMo));constructor)|refine qP ?_)
   exact gOld (.tmp rfl (.tmp rfl (.tmp rfl (.cellA inferInstance rfl rfl rfl rfl .nil)))) zav rfl
 rw[if_neg c2]
 by_cases c3:vid<1∨4094<vid
 ·rw[if_pos c3]
  by_cases c3a:vid<1
  ·repeat' (first|refine qU ?_|refine qW ?_|((first|apply dX rfl|apply Da rfl rfl|apply Db rfl rfl qN);(focus ((try intro hg);first|exact zac hwr rfl|exact zac hft rfl|exact zaq rfl rfl (zcf 3 0)|exact qMo));constructor)|refine qP ?_)
   exact gOld (.tmp rfl (.tmp rfl (.tmp rfl (.cellA inferInstance rfl rfl rfl rfl .nil)))) zav rfl
  ·repeat' (first|refine qU ?_|refine qW ?_|((first|apply dX rfl|apply Da rfl rfl|apply Db rfl rfl qN);(focus ((try intro hg);first|exact zac hwr rfl|exact zac hft rfl|exact zaq rfl rfl (zcf 3 0)|exact qMo));constructor)|refine qP ?_)
   exact gOld (.tmp rfl (.tmp rfl (.tmp rfl (.cellA inferInstance rfl rfl rfl rfl .nil)))) zav rfl
 rw[if_neg c3]
 cases c4:f.tagged with
 | true =>
  rw[if_pos rfl]
  obtain⟨f1,f2,f3,f4,f5,f6,f7,f8⟩:=f
  simp only at c4
  subst c4
  repeat' (first|refine qU ?_|refine qW ?_|((first|apply dX rfl|apply Da rfl rfl|apply Db rfl rfl qN);(focus ((try intro hg);first|exact zac hwr rfl|exact zac hft rfl|exact zaq rfl rfl (zcf 1 0)|exact qMo));constructor)|refine qP ?_)
  exact gOld (.tmp rfl (.tmp rfl (.tmp rfl (.cellA inferInstance rfl rfl rfl rfl .nil)))) zav rfl
 | false =>
 rw[if_neg (by decide)]
 obtain⟨f1,f2,f3,f4,f5,f6,f7,f8⟩:=f
 simp only at c4
 subst c4
 by_cases c5:Frame.wrong ⟨f1,f2,false,f4,f5,f6,f7,f8⟩≠0
 ·rw[if_pos c5]
  have c5':¬Frame.wrong ⟨f1,f2,false,f4,f5,f6,f7,f8⟩=0:=c5
  generalize Frame.wrong _=e at hfw c5' ⊢
  repeat' (first|refine qU ?_|refine qW ?_|((first|apply dX rfl|apply Da rfl rfl|apply Db rfl rfl qN);(focus ((try intro hg);first|exact zac hwr rfl|exact zac hft rfl|exact zac hfw rfl|exact zaq rfl rfl (zcf e 0)|exact qMo));constructor)|refine qP ?_)
  exact gOld (.tmp rfl (.tmp rfl (.tmp rfl (.cellA inferInstance rfl rfl rfl rfl .nil)))) zav rfl
 rw[if_neg c5]
 have c5:Frame.wrong ⟨f1,f2,false,f4,f5,f6,f7,f8⟩=0:=Decidable.not_not.1 c5
 rw[c5]at hfw
 repeat' (first|refine qU ?_|refine qW ?_|((first|apply dX rfl|apply Da rfl rfl|apply Db rfl rfl qN);(focus ((try intro hg);first|exact zac hwr rfl|exact zac hft rfl|exact zac hfw rfl|exact qMo));constructor)|refine qP ?_)
 generalize hff:(⟨f1,f2,false,f4,f5,f6,f7,f8⟩:Frame)=f at hf
 refine zag (fun k:Nat=>⟨[(4,.dat false (.int .i64 vid)),(6,.ptr 6 0),(7,.ptr 7 0),(15,.ptr 15 0),(16,.dat true (.fn 69 [])),(3,.dat false (.int .i64 frm)),(11,.ptr 11 0),(2,.dat false (.slice (bs0.map za8))),(117,.dat false (.slice (n.bridges.map zaj))),(118,.dat true (.int .i64 (n.bridges.map zaj).length)),(119,.dat true (.int .i64 k))],[(6,.cells false true (n.cells.map (.dat false))),(7,.cells false true [.dat false (.slice (t.map zae))]),(15,.cells false true [.dat true (.int .i64 0),.dat true (.int .i64 0)]),(11,.cells false true (f.cells.map (.dat false)))],321⟩)
  (fun k=>k≤n.bridges.length∧n.bridges.any (fun b=>decide ((t.length:Int)≤za2 b.region.ways vid))=(n.bridges.drop k).any (fun b=>decide ((t.length:Int)≤za2 b.region.ways vid))) (fun k=>n.bridges.length-k) 0 ⟨Nat.zero_le _,by rw[List.drop_zero]⟩ (by subst hff;exact Wk_g some rfl rfl kqp) (fun k hR=>?_)
 obtain⟨hk,hany⟩:=hR
 by_cases hlt:k<n.bridges.length
 ·have hx:n.bridges[(k:Int).toNat]? = some n.bridges[k]:=by simp[hlt]
  rw[List.drop_eq_getElem_cons hlt,List.any_cons]at hany
  have hbo:=ht.wy n.bridges[k] (List.getElem_mem hlt)
  generalize n.bridges[k]=b at hx hany hbo
  have htr:=zkg b.region vid hbo
  by_cases hbad:(t.length:Int)≤za2 b.region.ways vid
  ·rw[decide_eq_true hbad,Bool.true_or]at hany
   rw[hany,if_pos rfl]
   generalize za2 b.region.ways vid=tr at htr hbad
   repeat' (first|refine qU ?_|refine qW ?_|((first|apply dX rfl|apply Da rfl rfl|apply Db rfl rfl qN);(focus ((try intro hg);first|exact zaf rfl rfl (by omega) hx|exact zac htr rfl|exact zaq rfl rfl (zcf 5 0)|exact qMo));constructor)|refine qP ?_)
   exact gOld (.tmp rfl (.tmp rfl (.tmp rfl (.cellA inferInstance rfl rfl rfl rfl .nil)))) zav rfl
  ·rw[decide_eq_false hbad,Bool.false_or]at hany
   generalize za2 b.region.ways vid=tr at htr hbad
   repeat' (first|refine qU ?_|refine qW ?_|((first|apply dX rfl|apply Da rfl rfl|apply Db rfl rfl qN);(focus ((try intro hg);first|exact zaf rfl rfl (by omega) hx|exact zac htr rfl|exact qMo));constructor)|refine qP ?_)
   exact zaa (k+1) ⟨hlt,hany⟩ (by omega) (Wk_g some rfl rfl kqp)
 rw[List.drop_eq_nil_of_le (by omega),List.any_nil]at hany
 rw[hany,if_neg (by decide)]
 clear hany
 repeat' (first|(apply dt rfl;case h=>exact zb8 (els := []) 138 rfl rfl rfl rfl rfl)|(apply dt rfl;case h=>exact zb8 (els := [zbO ⟨frm,0,f⟩]) 144 (by subst hff;rfl) rfl rfl rfl rfl)|refine qU ?_|refine qW ?_|((first|apply dX rfl|apply Da rfl rfl|apply Db rfl rfl qN);(focus ((try intro hg);first|exact zan (f:=za8) (us := []) (bs:=bs0) rfl rfl (.dat _ _) rfl rfl (.inl rfl) rfl (by simp only[List.length_nil];omega)|exact qMo));constructor)|refine qP ?_)
 refine zag (fun q:Nat×(List Come×List Come×List Come)×List OutF×List (List Ent)=>⟨[(4,.dat false (.int .i64 vid)),(6,.ptr 6 0),(7,.ptr 7 0),(15,.ptr 15 0),(16,.dat true (.fn 69 [])),(2,.own 138 0 0 q.2.2.2.length),(21,.own 900 0 0 q.2.2.1.length),(22,.own 144 0 q.2.1.1.length q.2.1.2.1.length),(23,.dat true (.int .i64 q.1))],
   [(6,.cells false true (n.cells.map (.dat false))),(7,.cells false true [.dat false (.slice (t.map zae))]),(15,.cells false true [.dat true (.int .i64 0),.dat true (.int .i64 0)]),(138,.row 0 false false 1 (q.2.2.2.map za8)),(144,.row 0 false false 10 ((q.2.1.1++(q.2.1.2.1++q.2.1.2.2)).map zbO)),(900,.row 0 false false 9 (q.2.2.1.map outV))],321⟩)
  (fun q=>q.1≤41∧(∀ c∈q.2.1.2.1,c.ok n)∧q.2.2.2.length=n.bridges.length∧q.2.1.2.1.length≤1+81*q.1∧q.2.2.1.length≤81*q.1∧goS n t vid 41 [⟨frm,0,f⟩] [] bs0=goS n t vid (41-q.1) q.2.1.2.1 q.2.2.1 q.2.2.2) (fun q=>41-q.1) (0,([],[⟨frm,0,f⟩],[]),[],bs0)
  ⟨Nat.zero_le _,fun c hc=>by rw[List.mem_singleton.1 hc];exact⟨by simp only;omega,by simp only;omega,hf⟩,c1,Nat.le_refl _,Nat.le_refl _,rfl⟩
  (zfR (fun g=>if g=900 then none else some g) rfl rfl kqp kqp) (fun q hR=>?_)
 obtain⟨s,⟨pre,todo,post⟩,seen,bs⟩:=q
 obtain⟨hs,hco,hbn,htd,hsn,hgo⟩:=hR
 simp only at hs hco hbn htd hsn hgo
 dsimp only
 rw[hgo]
 cases todo with
 | nil =>
  rw[show goS n t vid (41-s) [] seen bs=⟨seen,bs,true,(0,0)⟩ by with_unfolding_all (cases 41-s<;>rfl)]
  refine zaR 2 rfl rfl (by simp) ?_
  refine zaR 21 rfl rfl (by simp) ?_
  repeat' (first|refine qU ?_|refine qW ?_|((first|apply dX rfl|apply Da rfl rfl|apply Db rfl rfl qN);(focus ((try intro hg);first|exact qMo));constructor)|refine qP ?_)
  exact gOld (.tmp rfl (.tmp rfl (.tmp rfl (.cellA inferInstance rfl rfl rfl rfl .nil)))) zav rfl
 | cons c r =>
 by_cases hs41:41≤s
 ·obtain rfl:s=41:=by omega
  rw[show goS n t vid (41-41) (c::r) seen bs=zbU 0 by with_unfolding_all rfl]
  have hlc:(c::r).length=r.length+1:=rfl
  repeat' (first|refine qU ?_|refine qW ?_|((first|apply dX rfl|apply Da rfl rfl|apply Db rfl rfl qN);(focus ((try intro hg);first|exact qMo));constructor)|refine qP ?_)
  exact gOld (.tmp rfl (.tmp rfl (.tmp rfl (.cellA inferInstance rfl rfl rfl rfl .nil)))) zav rfl
 obtain⟨k,hk⟩:∃ k,41-s=k+1:=⟨40-s,by omega⟩
 rw[hk]at hgo ⊢
 rw[show goS n t vid (k+1) (c::r) seen bs=if(zbP n t vid bs c).2.2≠0 then zbU (zbP n t vid bs c).2.2 else goS n t vid k (r++zbw n c.br (zbP n t vid bs c).1) (seen++zcG c.br (zbP n t vid bs c).1) (bs.set c.br.toNat (zbP n t vid bs c).2.1) by with_unfolding_all rfl]at hgo ⊢
 obtain⟨hc0,hc1,hcf⟩:=hco c (by simp)
 have hcx:((pre++(c::r++post)).map zbO)[pre.length+(0:Int).toNat]? = some (zbO c):=by
  rw[show pre.length+(0:Int).toNat=pre.length from rfl,List.getElem?_map,List.getElem?_append_right (Nat.le_refl _),Nat.sub_self];rfl
 have hlc:(c::r).length=r.length+1:=rfl
 obtain⟨b,hb⟩:∃ b,n.bridges[c.br.toNat]? = some b:=⟨_,List.getElem?_eq_getElem (by omega)⟩
 obtain⟨bk,hbk⟩:∃ bk,bs[c.br.toNat]? = some bk:=⟨_,List.getElem?_eq_getElem (by omega)⟩
 have hbm:=List.mem_of_getElem? hb
 have hrl:=znM (zfg n c.br) (zbc n t c.br vid) (zdj bs c.br) c.port c.f (by rw[zgr hb];exact ht.wy b hbm) hcf
 have hok:=zl1 (r:=zfg n c.br) (gs:=zbc n t c.br vid) (l:=zdj bs c.br) (port:=c.port) hcf
 have hol:=ziz (zfg n c.br) (zbc n t c.br vid) (zdj bs c.br) c.port c.f
 have hgl:=zk7 hg t c.br vid
 have hpo:=zes n hg c.br
 have hpl:=zjr hg c.br
 have hge:zbc n t c.br vid=([0]++zah n.links c.br).map (zbm t c.br vid):=by with_unfolding_all rfl
 rw[show zbP n t vid bs c=zaQ (zfg n c.br) (zbc n t c.br vid) (zdj bs c.br) c.port c.f from rfl]at hgo ⊢
 generalize zaQ (zfg n c.br) (zbc n t c.br vid) (zdj bs c.br) c.port c.f=res at hrl hok hol hgo ⊢
 rw[zgr hb,zkJ hbk]at hrl
 obtain⟨outs,nbk,err⟩:=res
 simp only at hrl hok hol hgo ⊢
 have hbp:(bs.map za8)[c.br.toNat]? = some (za8 bk):=by rw[List.getElem?_map,hbk];rfl
 have hq0:([0]++zah n.links c.br).length=(zah n.links c.br).length+1:=by simp
 repeat' (first|refine zcY 24 (bx := .cells false true ((zbO c).map (.dat false))) rfl ?_|refine qU ?_|refine qW ?_|((first|apply dX rfl|apply Da rfl rfl|apply Db rfl rfl qN);(focus ((try intro hg);first|exact ziK rfl rfl rfl (by omega) (by omega)|exact zbn rfl rfl hcx rfl|exact qMo));constructor)|refine qP ?_)
 intro _
 refine zoj ?_
 refine zdy (l1 := [_]) (l2 := [_]) rfl ?_
 repeat' (first|refine qU ?_|refine qW ?_|((first|apply dX rfl|apply Da rfl rfl|apply Db rfl rfl qN);(focus ((try intro hg);first|exact qMo));constructor)|refine qP ?_)
 refine dnil ⟨_,rfl,zsi rfl rfl (.some _ _ _ _ 1 rfl) (by omega),fun d wr hF=>?_⟩
 obtain⟨l,hl,rfl,rfl⟩:=hF
 obtain ⟨pre1,post1,hrow,hpl1⟩:∃ pre1 post1,pre++(c::r++post)=pre1++(r++post1)∧l=pre1.length:=by
  rcases hl with rfl|⟨rfl,h⟩
  ·exact⟨pre++[c],post,by simp,by simp⟩
  ·obtain rfl:r=[]:=List.length_eq_zero_iff.1 (by omega)
   exact⟨pre,c::post,by simp,rfl⟩
 subst hpl1
 dsimp only[St.put]
 rw[hrow,show(c::r).length-1=r.length from rfl]
 clear hrow hl hcx
 repeat' (first|(apply dt rfl;case h=>exact zb8 (els := [[.int .i64 0]]) 158 rfl rfl rfl rfl rfl)|refine qU ?_|refine qW ?_|((first|apply dX rfl|apply Da rfl rfl|apply Db rfl rfl qN);(focus ((try intro hg);first|exact zac hpo rfl|exact zan (f:=zad) (us := [0]) (bs:=zah n.links c.br) rfl rfl (.dat _ _) rfl rfl (.inr ⟨rfl,inferInstance⟩) rfl (by simp only[List.length_singleton];omega)|exact qMo));constructor)|refine qP ?_)
 refine zaR 163 rfl rfl (by simp) ?_
 refine zag (fun q:Nat×List Gate=>⟨[(4,.dat false (.int .i64 vid)),(6,.ptr 6 0),(7,.ptr 7 0),(15,.ptr 15 0),(16,.dat true (.fn 69 [])),(2,.own 138 0 0 bs.length),(21,.own 900 0 0 seen.length),(22,.own 144 0 pre1.length r.length),(23,.dat true (.int .i64 s)),(24,.ptr 24 0),(25,.own 901 0 0 q.2.length),(163,.dat false (.slice (([0]++zah n.links c.br).map zad))),(164,.dat true (.int .i64 ([0]++zah n.links c.br).length)),(165,.dat true (.int .i64 q.1))],
   [(6,.cells false true (n.cells.map (.dat false))),(7,.cells false true [.dat false (.slice (t.map zae))]),(15,.cells false true [.dat true (.int .i64 0),.dat true (.int .i64 0)]),(24,.cells false true ((zbO c).map (.dat false))),(138,.row 0 false false 1 (bs.map za8)),(144,.row 0 false false 10 ((pre1++(r++post1)).map zbO)),(900,.row 0 false false 9 (seen.map outV)),(901,.row 0 false true 4 (q.2.map zaM))],321⟩)
  (fun q=>q.1≤([0]++zah n.links c.br).length∧q.2=(([0]++zah n.links c.br).take q.1).map (zbm t c.br vid)) (fun q=>([0]++zah n.links c.br).length-q.1) (0,[]) ⟨Nat.zero_le _,rfl⟩
  (zfR (fun g=>if g=901 then none else some g) rfl rfl kqp kqp) (fun q hR=>?_)
 obtain⟨i,us⟩:=q
 obtain⟨hi,hus⟩:=hR
 simp only at hi hus
 dsimp only
 by_cases hli:i<([0]++zah n.links c.br).length
 ·have hx0:([0]++zah n.links c.br)[i]? = some ([0]++zah n.links c.br)[i]:=List.getElem?_eq_getElem hli
  have hul:us.length=i:=by rw[hus,List.length_map,List.length_take];omega
  have hgn:=znY (t:=t) (vid:=vid) hx0
  rw[←hus]at hgn
  generalize ([0]++zah n.links c.br)[i]=p at hx0 hgn
  have hx:([0]++zah n.links c.br)[(i:Int).toNat]? = some p:=by rw[Int.toNat_natCast];exact hx0
  have hpm:(([0]++zah n.links c.br).map zad).length=([0]++zah n.links c.br).length:=by simp
  obtain⟨pl,hpl⟩:∃ pl,pl=if p=0 then vid else 0:=⟨_,rfl⟩
  have hgp:zbm t c.br vid p=⟨p,[vid],pl,zaV t c.br p⟩:=by rw[hpl];rfl
  have hol:(zaV t c.br p).length=t.length:=by with_unfolding_all simp[zaV]
  have hge : [[V.int .i64 p,V.slice [[V.int .i64 vid]],V.int .i64 pl,V.slice ((((zaV t c.br p).map zbA).drop 0).take (zaV t c.br p).length)]]=[zbm t c.br vid p].map zaM:=by
   rw[zbp rfl,hgp];rfl
  have hor:=ziC n hg t htt
  by_cases hp0:p=0
  ·rw [if_pos hp0]at hpl
   repeat' (first|refine qU ?_|refine qW ?_|((first|apply dX rfl|apply Da rfl rfl|apply Db rfl rfl qN);(focus ((try intro hg);first|exact zaf rfl rfl (by omega) hx|exact qMo));constructor)|refine qP ?_)
   refine zag (fun q:Nat×List Bool=>⟨[(4,.dat false (.int .i64 vid)),(6,.ptr 6 0),(7,.ptr 7 0),(15,.ptr 15 0),(16,.dat true (.fn 69 [])),(2,.own 138 0 0 bs.length),(21,.own 900 0 0 seen.length),(22,.own 144 0 pre1.length r.length),(23,.dat true (.int .i64 s)),(24,.ptr 24 0),(163,.dat false (.slice (([0]++zah n.links c.br).map zad))),(164,.dat true (.int .i64 ([0]++zah n.links c.br).length)),(25,.own 901 0 0 us.length),(165,.dat true (.int .i64 i)),(27,.dat true (.int .i64 p)),(28,.ptr 28 0),(179,.dat true (.int .i64 (t.map zae).length)),(180,.dat true (.int .i64 q.1))],
     [(6,.cells false true (n.cells.map (.dat false))),(7,.cells false true [.dat false (.slice (t.map zae))]),(15,.cells false true [.dat true (.int .i64 0),.dat true (.int .i64 0)]),(24,.cells false true ((zbO c).map (.dat false))),(138,.row 0 false false 1 (bs.map za8)),(144,.row 0 false false 10 ((pre1++(r++post1)).map zbO)),(900,.row 0 false false 9 (seen.map outV)),(901,.row 0 false true 4 (us.map zaM)),(28,.cells false true [.dat true (.int .i64 p),.dat true (.slice [[.int .i64 vid]]),.dat true (.int .i64 pl),.own 902 0 0 q.2.length]),(902,.row 0 false true 1 (q.2.map zbA))],321⟩)
    (fun q=>q.1≤t.length∧q.2=(zaV t c.br p).take q.1) (fun q=>t.length-q.1) (0,[]) ⟨Nat.zero_le _,rfl⟩
    (by rw[hpl];exact zfR (fun g=>if g=902 then none else some g) rfl rfl kqp kqp) (fun q hR=>?_)
   obtain⟨j,os⟩:=q
   obtain⟨hj,hos⟩:=hR
   simp only at hj hos
   dsimp only
   by_cases hlj:j<t.length
   ·have hst:=ziD (b:=c.br) (port:=p) hlj
    have hosl:os.length=j:=by rw[hos,List.length_take];omega
    rw[←hos,decide_eq_true hp0,Bool.true_or]at hst
    repeat' (first|refine qU ?_|refine qW ?_|((first|apply dX rfl|apply Da rfl rfl|apply Db rfl rfl qN);(focus ((try intro hg);first|exact zan (f:=zbA) (us:=os) (bs := [true]) rfl rfl (.dat _ _) rfl rfl (.inr ⟨rfl,inferInstance⟩) rfl (by simp only[List.length_singleton];omega)|exact qMo));constructor)|refine qP ?_)
    exact zaa (j+1,os++[true]) ⟨hlj,hst.symm⟩ (by simp only;omega) (Wk_g some rfl rfl kqp)
   ·obtain rfl:os=zaV t c.br p:=by rw[hos,List.take_of_length_le (by omega)]
    refine zaD 902 (by intro kt et es h;cases (show Box.row _ _ _ _ _=Box.mapb _ _ _ from h)) ?_
    repeat' (first|refine qU ?_|refine qW ?_|((first|apply dX rfl|apply Da rfl rfl|apply Db rfl rfl qN);(focus ((try intro hg);first|exact zan (f:=zaM) (us:=us) (bs := [zbm t c.br vid p]) rfl rfl (.dat _ _) hge rfl (.inl rfl) rfl (by simp only[List.length_singleton];omega)|exact qMo));constructor)|refine qP ?_)
    exact zaa (i+1,us++[zbm t c.br vid p]) ⟨hli,hgn.symm⟩ (by simp only;omega) (Wk_g some rfl rfl kqp)
  ·rw [if_neg hp0]at hpl
   repeat' (first|refine qU ?_|refine qW ?_|((first|apply dX rfl|apply Da rfl rfl|apply Db rfl rfl qN);(focus ((try intro hg);first|exact zaf rfl rfl (by omega) hx|exact qMo));constructor)|refine qP ?_)
   refine zag (fun q:Nat×List Bool=>⟨[(4,.dat false (.int .i64 vid)),(6,.ptr 6 0),(7,.ptr 7 0),(15,.ptr 15 0),(16,.dat true (.fn 69 [])),(2,.own 138 0 0 bs.length),(21,.own 900 0 0 seen.length),(22,.own 144 0 pre1.length r.length),(23,.dat true (.int .i64 s)),(24,.ptr 24 0),(163,.dat false (.slice (([0]++zah n.links c.br).map zad))),(164,.dat true (.int .i64 ([0]++zah n.links c.br).length)),(25,.own 901 0 0 us.length),(165,.dat true (.int .i64 i)),(27,.dat true (.int .i64 p)),(28,.ptr 28 0),(179,.dat true (.int .i64 (t.map zae).length)),(180,.dat true (.int .i64 q.1))],
     [(6,.cells false true (n.cells.map (.dat false))),(7,.cells false true [.dat false (.slice (t.map zae))]),(15,.cells false true [.dat true (.int .i64 0),.dat true (.int .i64 0)]),(24,.cells false true ((zbO c).map (.dat false))),(138,.row 0 false false 1 (bs.map za8)),(144,.row 0 false false 10 ((pre1++(r++post1)).map zbO)),(900,.row 0 false false 9 (seen.map outV)),(901,.row 0 false true 4 (us.map zaM)),(28,.cells false true [.dat true (.int .i64 p),.dat true (.slice [[.int .i64 vid]]),.dat true (.int .i64 pl),.own 902 0 0 q.2.length]),(902,.row 0 false true 1 (q.2.map zbA))],321⟩)
    (fun q=>q.1≤t.length∧q.2=(zaV t c.br p).take q.1) (fun q=>t.length-q.1) (0,[]) ⟨Nat.zero_le _,rfl⟩
    (by rw[hpl];exact zfR (fun g=>if g=902 then none else some g) rfl rfl kqp kqp) (fun q hR=>?_)
   obtain⟨j,os⟩:=q
   obtain⟨hj,hos⟩:=hR
   simp only at hj hos
   dsimp only
   by_cases hlj:j<t.length
   ·have hst:=ziD (b:=c.br) (port:=p) hlj
    have hosl:os.length=j:=by rw[hos,List.length_take];omega
    rw[←hos,decide_eq_false hp0,Bool.false_or]at hst
    have ho:=hor j c.br p
    generalize zdh t j c.br p=o at ho hst
    repeat' (first|refine qU ?_|refine qW ?_|((first|apply dX rfl|apply Da rfl rfl|apply Db rfl rfl qN);(focus ((try intro hg);first|exact zac ho rfl|exact zan (f:=zbA) (us:=os) (bs := [o]) rfl rfl (.dat _ _) rfl rfl (.inr ⟨rfl,inferInstance⟩) rfl (by simp only[List.length_singleton];omega)|exact qMo));constructor)|refine qP ?_)
    exact zaa (j+1,os++[o]) ⟨hlj,hst.symm⟩ (by simp only;omega) (Wk_g some rfl rfl kqp)
   ·obtain rfl:os=zaV t c.br p:=by rw[hos,List.take_of_length_le (by omega)]
    refine zaD 902 (by intro kt et es h;cases (show Box.row _ _ _ _ _=Box.mapb _ _ _ from h)) ?_
    repeat' (first|refine qU ?_|refine qW ?_|((first|apply dX rfl|apply Da rfl rfl|apply Db rfl rfl qN);(focus ((try intro hg);first|exact zan (f:=zaM) (us:=us) (bs := [zbm t c.br vid p]) rfl rfl (.dat _ _) hge rfl (.inl rfl) rfl (by simp only[List.length_singleton];omega)|exact qMo));constructor)|refine qP ?_)
    exact zaa (i+1,us++[zbm t c.br vid p]) ⟨hli,hgn.symm⟩ (by simp only;omega) (Wk_g some rfl rfl kqp)
 obtain rfl:us=zbc n t c.br vid:=by rw[hus,List.take_of_length_le (by omega),hge]
 clear hus hge
 generalize zbc n t c.br vid=gs at hrl hol hgl
 refine zaR 25 rfl rfl (by simp) ?_
 by_cases he:err≠0
 ·rw[if_pos he]
  have he':¬err=0:=he
  repeat' (first|refine qU ?_|refine qW ?_|((first|apply dX rfl|apply Da rfl rfl|apply Db rfl rfl qN);(focus ((try intro hg);first|exact zaf rfl rfl (by omega) hb|exact zc7 rfl rfl rfl (by omega) (by omega)|exact zbn rfl rfl hbp rfl|exact ze4 hrl rfl|exact zaq rfl rfl (zcf err 0)|exact qMo));constructor)|refine qP ?_)
  exact gOld (.tmp rfl (.tmp rfl (.tmp rfl (.cellA inferInstance rfl rfl rfl rfl .nil)))) zav rfl
 rw[if_neg he]at hgo ⊢
 obtain rfl:err=0:=Decidable.not_not.1 he
 clear he
 have hmo:(outs.map outV).length=outs.length:=by simp
 have hml:(n.links.map zar).length=n.links.length:=by simp
 have hnl:=hg.nl
 have hnd:=hg.po
 have hc00:zbw n c.br []=[]:=by with_unfolding_all rfl
 have hs00:zcG c.br []=[]:=by with_unfolding_all rfl
 repeat' (first|refine qU ?_|refine qW ?_|((first|apply dX rfl|apply Da rfl rfl|apply Db rfl rfl qN);(focus ((try intro hg);first|exact zaf rfl rfl (by omega) hb|exact zc7 rfl rfl rfl (by omega) (by omega)|exact zbn rfl rfl hbp rfl|exact ze4 hrl rfl|exact zba (f:=za8) (a:=nbk) rfl rfl hbk rfl rfl (.inl rfl) rfl rfl|exact qMo));constructor)|refine qP ?_)
 refine zag (fun q:Nat×(List Come×List Come×List Come)×List OutF=>⟨[(4,.dat false (.int .i64 vid)),(6,.ptr 6 0),(7,.ptr 7 0),(15,.ptr 15 0),(16,.dat true (.fn 69 [])),(2,.own 138 0 0 bs.length),(23,.dat true (.int .i64 s)),(24,.ptr 24 0),(240,.dat false (.slice (outs.map outV))),(241,.dat true (.int .i64 (outs.map outV).length)),(21,.own 900 0 0 q.2.2.length),(22,.own 144 0 q.2.1.1.length q.2.1.2.1.length),(242,.dat true (.int .i64 q.1))],
   [(6,.cells false true (n.cells.map (.dat false))),(7,.cells false true [.dat false (.slice (t.map zae))]),(15,.cells false true [.dat true (.int .i64 0),.dat true (.int .i64 0)]),(24,.cells false true ((zbO c).map (.dat false))),(138,.row 0 false false 1 ((bs.set c.br.toNat nbk).map za8)),(144,.row 0 false false 10 ((q.2.1.1++(q.2.1.2.1++q.2.1.2.2)).map zbO)),(900,.row 0 false false 9 (q.2.2.map outV))],321⟩)
  (fun q=>q.1≤outs.length∧q.2.1.2.1=r++zbw n c.br (outs.take q.1)∧q.2.2=seen++zcG c.br (outs.take q.1)) (fun q=>outs.length-q.1) (0,(pre1,r,post1),seen) ⟨Nat.zero_le _,by simp[hc00],by simp[hs00]⟩
  (Wk_g some rfl rfl kqp) (fun q hR=>?_)
 obtain⟨j,⟨pre2,todo,post2⟩,sn⟩:=q
 obtain⟨hj,htd2,hsn2⟩:=hR
 simp only at hj htd2 hsn2
 dsimp only
 have htl2:todo.length≤81*s+81:=by
  rw[htd2,List.length_append]
  have:=zhe n c.br (outs.take j)
  have:=List.length_take_le j outs
  omega
 have hsl2:sn.length≤81*s+81:=by
  rw[hsn2,List.length_append]
  have:=ziq c.br (outs.take j)
  have:=List.length_take_le j outs
  omega
 by_cases hlj:j<outs.length
 ·have ho0:outs[j]? = some outs[j]:=by simp[hlj]
  have ho:outs[(j:Int).toNat]? = some outs[j]:=by simp[hlj]
  have hct:=zfZ (n:=n) (b:=c.br) ho0
  have hst:=zhd (b:=c.br) ho0
  generalize outs[j]=o at ho hct hst
  obtain⟨p,g⟩:=o
  simp only at hct hst
  by_cases hp0:p=0
  ·rw[if_pos hp0,List.append_nil]at hct
   rw[if_pos hp0]at hst
   repeat' (first|refine qU ?_|refine qW ?_|((first|apply dX rfl|apply Da rfl rfl|apply Db rfl rfl qN);(focus ((try intro hg);first|exact zaf rfl rfl (by omega) ho|exact zan (f:=outV) (us:=sn) (bs := [(c.br,g)]) rfl rfl (.dat _ _) rfl rfl (.inl rfl) rfl (by simp only[List.length_singleton];omega)|exact qMo));constructor)|refine qP ?_)
   exact zaa (j+1,(pre2,todo,post2),sn++[(c.br,g)]) ⟨hlj,by rw[hct];exact htd2,by rw[hst,hsn2,List.append_assoc]⟩ (by simp only;omega) (Wk_g some rfl rfl kqp)
  ·rw [if_neg hp0]at hct
   rw[if_neg hp0,List.append_nil]at hst
   repeat' (first|refine qU ?_|refine qW ?_|((first|apply dX rfl|apply Da rfl rfl|apply Db rfl rfl qN);(focus ((try intro hg);first|exact zaf rfl rfl (by omega) ho|exact qMo));constructor)|refine qP ?_)
   refine zag (fun u:Nat×(List Come×List Come×List Come)=>⟨[(4,.dat false (.int .i64 vid)),(6,.ptr 6 0),(7,.ptr 7 0),(15,.ptr 15 0),(16,.dat true (.fn 69 [])),(2,.own 138 0 0 bs.length),(23,.dat true (.int .i64 s)),(24,.ptr 24 0),(240,.dat false (.slice (outs.map outV))),(241,.dat true (.int .i64 (outs.map outV).length)),(21,.own 900 0 0 sn.length),(22,.own 144 0 u.2.1.length u.2.2.1.length),(242,.dat true (.int .i64 j)),(34,.ptr 34 0),(258,.dat false (.slice (n.links.map zar))),(259,.dat true (.int .i64 (n.links.map zar).length)),(260,.dat true (.int .i64 u.1))],
     [(6,.cells false true (n.cells.map (.dat false))),(7,.cells false true [.dat false (.slice (t.map zae))]),(15,.cells false true [.dat true (.int .i64 0),.dat true (.int .i64 0)]),(24,.cells false true ((zbO c).map (.dat false))),(138,.row 0 false false 1 ((bs.set c.br.toNat nbk).map za8)),(144,.row 0 false false 10 ((u.2.1++(u.2.2.1++u.2.2.2)).map zbO)),(900,.row 0 false false 9 (sn.map outV)),(34,.cells false true ((outV (p,g)).map (.dat false)))],321⟩)
    (fun u=>u.1≤n.links.length∧u.2.2.1=todo++((n.links.take u.1).flatMap (acrL c.br p)).map (fun q=>(⟨q.1,q.2,g⟩:Come))) (fun u=>n.links.length-u.1) (0,(pre2,todo,post2)) ⟨Nat.zero_le _,by simp⟩
    (Wk_g some rfl rfl kqp) (fun u hR=>?_)
   obtain⟨m,pre3,tod3,post3⟩:=u
   obtain⟨hm,htd3⟩:=hR
   simp only at hm htd3
   dsimp only
   have htl3:tod3.length≤81*s+161:=by
    rw[htd3,List.length_append,List.length_map]
    have:=zqf c.br p (n.links.take m)
    have:=List.length_take_le m n.links
    omega
   by_cases hlm:m<n.links.length
   ·have hy0:n.links[m]? = some n.links[m]:=by simp[hlm]
    have hy:n.links[(m:Int).toNat]? = some n.links[m]:=by simp[hlm]
    have hne:=zqe hnd (List.getElem_mem hlm)
    have hat:=zrR (b:=c.br) (p:=p) hy0
    generalize n.links[m]=x at hy hne hat
    obtain⟨a,pa,b',pb,cost,up⟩:=x
    simp only at hne
    cases up with
    | false =>
     rw[zrS,List.append_nil]at hat
     repeat' (first|refine qU ?_|refine qW ?_|((first|apply dX rfl|apply Da rfl rfl|apply Db rfl rfl qN);(focus ((try intro hg);first|exact zaf rfl rfl (by omega) hy|exact qMo));constructor)|refine qP ?_)
     exact zaa (m+1,(pre3,tod3,post3)) ⟨hlm,by rw[hat];exact htd3⟩ (by simp only;omega) (Wk_g some rfl rfl kqp)
    | true =>
     rw[ztP]at hat
     repeat' (first|refine qU ?_|refine qW ?_|((first|apply dX rfl|apply Da rfl rfl|apply Db rfl rfl qN);(focus ((try intro hg);first|exact zaf rfl rfl (by omega) hy|exact qMo));constructor)|refine qP ?_)
     refine zat rfl (fun hb1=>?_) (fun hb1=>?_)
     ·have k1:a=c.br∧pa=p:=by simpa using hb1
      have k2:¬(b'=c.br∧pb=p):=fun k2=>hne (by rw[k1.1,k1.2,k2.1,k2.2])
      rw[if_pos k1,if_neg k2,List.append_nil]at hat
      refine zdy (l1 := [_,_,_,_,_,_,_,_,_]) (l2 := [_]) rfl ?_
      repeat' (first|refine qU ?_|refine qW ?_|((first|apply dX rfl|apply Da rfl rfl|apply Db rfl rfl qN);(focus ((try intro hg);first|exact qMo));constructor)|refine qP ?_)
      refine dnil ⟨_,rfl,zpD (f:=zbO) (us:=pre3++(tod3++post3)) (bs := [⟨b',pb,g⟩]) rfl rfl rfl rfl (Nat.ble_eq_true_of_le (by simp only[List.length_append];omega)) (by simp) (.inl rfl) rfl (by simp only[List.length_singleton];omega),fun d wr hF=>?_⟩
      obtain⟨pre4,_,rfl,rfl⟩:=hF
      dsimp only[St.put]
      rw[zjG]
      repeat' (first|refine qU ?_|refine qW ?_|((first|apply dX rfl|apply Da rfl rfl|apply Db rfl rfl qN);(focus ((try intro hg);first|exact qMo));constructor)|refine qP ?_)
      refine zat rfl (fun hb2=>?_) (fun hb2=>?_)
      ·exact absurd (by simpa using hb2) k2
      ·repeat' (first|refine qU ?_|refine qW ?_|((first|apply dX rfl|apply Da rfl rfl|apply Db rfl rfl qN);(focus ((try intro hg);first|exact qMo));constructor)|refine qP ?_)
       exact zaa (m+1,(pre4,tod3++[⟨b',pb,g⟩],[])) ⟨hlm,by rw[hat,List.map_append,←List.append_assoc,←htd3];rfl⟩ (by simp only;omega) (by dsimp only;rw[show pre4++((tod3++[(⟨b',pb,g⟩:Come)])++[])=pre4++tod3++[⟨b',pb,g⟩] by simp,List.length_append];exact Wk_g some rfl rfl kqp)
     ·have k1:¬(a=c.br∧pa=p):=by simpa using hb1
      rw[if_neg k1,List.nil_append]at hat
      repeat' (first|refine qU ?_|refine qW ?_|((first|apply dX rfl|apply Da rfl rfl|apply Db rfl rfl qN);(focus ((try intro hg);first|exact qMo));constructor)|refine qP ?_)
      refine zat rfl (fun hb2=>?_) (fun hb2=>?_)
      ·have k2:b'=c.br∧pb=p:=by simpa using hb2
       rw[if_pos k2]at hat
       refine zdy (l1 := [_,_,_,_,_,_,_,_,_]) (l2 := [_]) rfl ?_
       repeat' (first|refine qU ?_|refine qW ?_|((first|apply dX rfl|apply Da rfl rfl|apply Db rfl rfl qN);(focus ((try intro hg);first|exact qMo));constructor)|refine qP ?_)
       refine dnil ⟨_,rfl,zpD (f:=zbO) (us:=pre3++(tod3++post3)) (bs := [⟨a,pa,g⟩]) rfl rfl rfl rfl (Nat.ble_eq_true_of_le (by simp only[List.length_append];omega)) (by simp) (.inl rfl) rfl (by simp only[List.length_singleton];omega),fun d wr hF=>?_⟩
       obtain⟨pre4,_,rfl,rfl⟩:=hF
       dsimp only[St.put]
       rw[zjG]
       repeat' (first|refine qU ?_|refine qW ?_|((first|apply dX rfl|apply Da rfl rfl|apply Db rfl rfl qN);(focus ((try intro hg);first|exact qMo));constructor)|refine qP ?_)
       exact zaa (m+1,(pre4,tod3++[⟨a,pa,g⟩],[])) ⟨hlm,by rw[hat,List.map_append,←List.append_assoc,←htd3];rfl⟩ (by simp only;omega) (by dsimp only;rw[show pre4++((tod3++[(⟨a,pa,g⟩:Come)])++[])=pre4++tod3++[⟨a,pa,g⟩] by simp,List.length_append];exact Wk_g some rfl rfl kqp)
      ·have k2:¬(b'=c.br∧pb=p):=by simpa using hb2
       rw[if_neg k2,List.append_nil]at hat
       repeat' (first|refine qU ?_|refine qW ?_|((first|apply dX rfl|apply Da rfl rfl|apply Db rfl rfl qN);(focus ((try intro hg);first|exact qMo));constructor)|refine qP ?_)
       exact zaa (m+1,(pre3,tod3,post3)) ⟨hlm,by rw[hat];exact htd3⟩ (by simp only;omega) (Wk_g some rfl rfl kqp)
   ·rw[List.take_of_length_le (by omega),zqd hnd]at htd3
    have htd4:tod3=r++zbw n c.br (outs.take (j+1)):=by
     rw[hct,htd3,htd2,List.append_assoc]
     cases zbT n.links c.br p<;>rfl
    repeat' (first|refine qU ?_|refine qW ?_|((first|apply dX rfl|apply Da rfl rfl|apply Db rfl rfl qN);(focus ((try intro hg);first|exact qMo));constructor)|refine qP ?_)
    exact zaa (j+1,(pre3,tod3,post3),sn) ⟨hlj,htd4,by rw[hst];exact hsn2⟩ (by simp only;omega) (Wk_g some rfl rfl kqp)
 ·rw[List.take_of_length_le (by omega)]at htd2 hsn2
  repeat' (first|refine qU ?_|refine qW ?_|((first|apply dX rfl|apply Da rfl rfl|apply Db rfl rfl qN);(focus ((try intro hg);first|exact qMo));constructor)|refine qP ?_)
  refine zaa (s+1,(pre2,todo,post2),sn,bs.set c.br.toNat nbk) ⟨by simp only;omega,fun x hx=>?_,by rw[List.length_set];exact hbn,by simp only;omega,by simp only;omega,?_⟩ (by simp only;omega) (by dsimp only;rw[List.length_set];exact Wk_g some rfl rfl kqp)
  ·simp only at hx
   rw[htd2]at hx
   rcases List.mem_append.1 hx with hx|hx
   ·exact hco x (by simp[hx])
   ·exact zfG hg hok x hx
  ·simp only
   rw[htd2,hsn2,show 41-(s+1)=k by omega]
end Go.Proofs.YtcdhlofhhcgohaaGreat
