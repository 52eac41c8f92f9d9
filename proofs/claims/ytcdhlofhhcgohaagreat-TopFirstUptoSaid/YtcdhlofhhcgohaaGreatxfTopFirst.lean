/- Law: TopFirst. -/
import Derived.Test.YtcdhlofhhcgohaaGreatxcBo1
import Derived.Test.YtcdhlofhhcgohaaGreatxdTlm
namespace Go.Proofs.YtcdhlofhhcgohaaGreat
open Go.RowKit
def setP (b:Bridge):Bridge := { b with prios := [4096,8192,12288,16384] }
def allP (n:Net):Net:=⟨n.bridges.map setP,n.links⟩
theorem allP_typed {n:Net} (ht:n.typed):(allP n).typed:=⟨fun b hb=>by obtain⟨c,hc,rfl⟩:=List.mem_map.1 hb;exact ht.ad c hc,fun b hb=>by obtain⟨c,hc,rfl⟩:=List.mem_map.1 hb;exact ht.wy c hc⟩
theorem prio_set (t:Nat) (h:t<4):((setPrio [4096,8192,12288,16384] t 0)[t]?).getD 32768=0∧4096≤(([4096,8192,12288,16384]:List Int)[t]?).getD 32768:=by
 match t,h with
 | 0,_=>exact⟨rfl,by decide⟩
 | 1,_=>exact⟨rfl,by decide⟩
 | 2,_=>exact⟨rfl,by decide⟩
 | 3,_=>exact⟨rfl,by decide⟩
theorem first_ids {n o:Net} {b t:Nat} (hg:o.good) (ht:t<4) (ho:o.bridges=(n.bridges.map setP).modify b fun x=>{ x with prios:=setPrio x.prios t 0 }) (hb:b<o.bridges.length):∀ j,j<o.bridges.length→j≠b→idN o t b<idN o t j:=fun j hj hne=>by
 obtain⟨p1,p2⟩:=prio_set t ht
 have hl:o.bridges.length=n.bridges.length:=by rw[ho];simp
 have gb:o.bridges[b]? = some { setP (n.bridges[b]'(by omega))with prios:=setPrio [4096,8192,12288,16384] t 0 }:=by
  rw[ho,List.getElem?_modify,List.getElem?_map,List.getElem?_eq_getElem (by omega)]
  simp[setP]
 have gj:o.bridges[j]? = some (setP (n.bridges[j]'(by omega))):=by
  rw[ho,List.getElem?_modify,List.getElem?_map,List.getElem?_eq_getElem (by omega)]
  simp[Ne.symm hne]
 have ob:=hg.br _ (List.mem_of_getElem? gb)
 have oj:=hg.br _ (List.mem_of_getElem? gj)
 rw[idN_of gb,idN_of gj]
 unfold Bridge.id Bridge.prio
 rw[if_pos (by omega),if_pos (by omega),Int.toNat_natCast]
 simp only[setP]at ob oj ⊢
 rw[p1]
 have:=ob.a1
 have:=oj.a0
 simp only at *
 omega
def firstL (b t:Nat):List Doing := [⟨1,40,0,0⟩,⟨5,b,t,0⟩,⟨1,40,0,0⟩]
theorem first_run {n:Net} (_ht:n.typed) {trees:Int} {b t:Nat} (htr:(t:Int)<trees) {m:Net} {u:List (List Mind)} (hg:(allP n).good) (h2:trees≤4) (hb:b<n.bridges.length) (hon:onLoop 0 (firstL b t) (allP n) (start0 (allP n) trees.toNat)=(some (m,u),(0,0))) :
  m.good∧goodT m u∧u.length=trees.toNat∧m.bridges.length=n.bridges.length∧(∀ j,j<m.bridges.length→j≠b→idN m t b<idN m t j)∧∃ l,u[t]? = some l∧l.length=n.bridges.length∧∀ i,i<n.bridges.length→(mAt l i).vec=sF m t i:=by
 have hnb:(allP n).bridges.length=n.bridges.length:=by unfold allP;simp
 have hd:doS (allP n) ⟨5,b,t,0⟩=(⟨(allP n).bridges.modify b fun x=>{ x with prios:=setPrio x.prios t 0 },(allP n).links⟩,0):=by
  have ht0:Int.tmod 0 4096=0:=by decide
  unfold doS
  rw[if_neg (by simp),if_pos rfl,if_neg (by simp only;omega),if_neg (by simp only;omega)]
  simp only[Int.toNat_natCast]
 unfold firstL at hon
 rw[on_tick (by decide),on_do (by simp) hd,on_tick (by decide),on_nil]at hon
 injection hon with hon _
 injection hon with hon
 injection hon with e1 e2
 have hk:=doS_kin (allP n) ⟨5,b,t,0⟩
 have hgm:=doS_good hg ⟨5,b,t,0⟩ (by rw[hd])
 rw[hd]at hk hgm
 rw[e1]at hk hgm e2
 simp only at hk hgm
 have hg0:goodT m (ticksN (allP n) (start0 (allP n) trees.toNat) (40:Int).toNat):=goodT_kin hk (ticksN_good (start0_good (by omega)) _)
 have hmb:m.bridges.length=n.bridges.length:=by rw[hk.nb,hnb]
 have hl0:(ticksN (allP n) (start0 (allP n) trees.toNat) (40:Int).toNat).length=trees.toNat:=by rw[ticks_len];simp[start0]
 have hl:u.length=trees.toNat:=by rw[←e2,ticks_len,hl0]
 have hlt:t<(ticksN (allP n) (start0 (allP n) trees.toNat) (40:Int).toNat).length:=by omega
 refine⟨hgm,by rw[←e2];exact ticksN_good hg0 _,hl,hmb,first_ids (n:=n) hgm (by omega) (by rw[←e1];rfl) (by omega),?_⟩
 obtain⟨l0,hl1⟩:∃ l0,(ticksN (allP n) (start0 (allP n) trees.toNat) (40:Int).toNat)[t]? = some l0:=⟨_,List.getElem?_eq_getElem hlt⟩
 have hl2:l0.length=m.bridges.length:=(hg0.m l0 (List.mem_of_getElem? hl1)).1
 refine⟨tkN m t l0 40,by rw[←e2,ticksN_get,hl1];rfl,by rw[tkN_len,hl2,hmb],fun i hi=>(settle_vec hgm t hl2 (by omega) (by decide)).1⟩
theorem bv_get {s:List Bool} {i:Nat} (h:i<s.length):s[i]? = some (bv s i):=by unfold bv;rw[List.getElem?_eq_getElem h];rfl
theorem bv_row {s:List Bool} {i:Nat} (h:i<s.length):(s.map boolV1)[i]? = some (boolV1 (bv s i)):=by rw[List.getElem?_map,bv_get h];rfl
theorem rcR_take {ls:List Link} {s:List Bool} {j:Nat} {l:Link} (h:ls[j]? = some l):rcR (ls.take (j+1)) s=rcS (rcR (ls.take j) s) l:=by
 unfold rcR
 rw[List.take_add_one,h,List.foldl_append];rfl
attribute [local irreducible] SStep DW DWin DOps thenQ inBlk loopQ retQ retQG FnF FnG FnI FnM Wk IntKind.wrap IntKind.andI IntKind.orI IntKind.xorI IntKind.andNotI IntKind.shlI IntKind.shrI playA onA ticksN tkN planF portsOf roleF opensT planS liveL rcR rcN reach0 allP onV
set_option maxHeartbeats 8000000 in
theorem law_TopFirst (n:Net) (ht:n.typed) (trees bridge tree:Int) (hlb:n.bridges.length≤1048576):FnF Tryz.prog 7 [n.v,.int .i64 trees,.int .i64 bridge,.int .i64 tree] (.bool true):=by
 refine fnF_of Tryz.func7 rfl rfl rfl ?_
 simp only[envOf]
 have hmb:(n.bridges.map bridgeV).length=n.bridges.length:=by simp
 by_cases c1:bridge<0
 ·repeat' (first|refine qU ?_|refine qW ?_|((first|apply dX rfl|apply Da rfl rfl|apply Db rfl rfl qN);(focus ((try intro hg);first|exact S_call top_alive rfl|exact qMo));constructor)|refine qP ?_)
  refine ret1 rfl qF ?_
  rfl
 by_cases c2:(n.bridges.length:Int)≤bridge
 ·repeat' (first|refine qU ?_|refine qW ?_|((first|apply dX rfl|apply Da rfl rfl|apply Db rfl rfl qN);(focus ((try intro hg);first|exact S_call top_alive rfl|exact qMo));constructor)|refine qP ?_)
  refine ret1 rfl qF ?_
  rfl
 by_cases c3:trees<1
 ·repeat' (first|refine qU ?_|refine qW ?_|((first|apply dX rfl|apply Da rfl rfl|apply Db rfl rfl qN);(focus ((try intro hg);first|exact S_call top_alive rfl|exact qMo));constructor)|refine qP ?_)
  refine ret1 rfl qF ?_
  rfl
 by_cases c4:4<trees
 ·repeat' (first|refine qU ?_|refine qW ?_|((first|apply dX rfl|apply Da rfl rfl|apply Db rfl rfl qN);(focus ((try intro hg);first|exact S_call top_alive rfl|exact qMo));constructor)|refine qP ?_)
  refine ret1 rfl qF ?_
  rfl
 by_cases c5:tree<0
 ·repeat' (first|refine qU ?_|refine qW ?_|((first|apply dX rfl|apply Da rfl rfl|apply Db rfl rfl qN);(focus ((try intro hg);first|exact S_call top_alive rfl|exact qMo));constructor)|refine qP ?_)
  refine ret1 rfl qF ?_
  rfl
 by_cases c6:trees≤tree
 ·repeat' (first|refine qU ?_|refine qW ?_|((first|apply dX rfl|apply Da rfl rfl|apply Db rfl rfl qN);(focus ((try intro hg);first|exact S_call top_alive rfl|exact qMo));constructor)|refine qP ?_)
  refine ret1 rfl qF ?_
  rfl
 obtain⟨B,rfl⟩:∃ B:Nat,bridge=(B:Int):=⟨bridge.toNat,by omega⟩
 obtain⟨R,rfl⟩:∃ R:Nat,tree=(R:Int):=⟨tree.toNat,by omega⟩
 have hxl:(n.bridges.map setP).length=n.bridges.length:=by simp
 repeat' (first|(apply dt rfl;case h=>exact S_litO (els := []) _ rfl rfl rfl rfl rfl)|refine qU ?_|refine qW ?_|((first|apply dX rfl|apply Da rfl rfl|apply Db rfl rfl qN);(focus ((try intro hg);first|exact S_call top_alive rfl|exact S_appM (f:=bridgeV) (us := []) (bs:=n.bridges) rfl rfl (.dat _ _) rfl rfl (.inl rfl) rfl (by simp only[List.length_nil];omega)|exact qMo));constructor)|refine qP ?_)
 refine DW_loop (fun i:Nat=>⟨[(1,.dat false (.int .i64 trees)),(2,.dat false (.int .i64 B)),(3,.dat false (.int .i64 R)),(9,.ptr 9 0),(56,.dat true (.int .i64 n.bridges.length)),(57,.dat true (.int .i64 i))],[(9,.cells false true [.own 49 0 0 n.bridges.length,.dat false (.slice (n.links.map linkV))]),(49,.row 0 false false 5 ((mix (n.bridges.map setP) n.bridges i).map bridgeV))],153⟩)
  (fun i=>i≤n.bridges.length) (fun i=>n.bridges.length-i) 0 (Nat.zero_le _) (by rw[mix_zero];exact Wk_g some rfl rfl kqp) (fun i hi=>?_)
 by_cases hlt:i<n.bridges.length
 ·have hx:n.bridges[i]? = some n.bridges[i]:=by simp[hlt]
  have hs0:(n.bridges.map setP)[i]? = some (setP n.bridges[i]):=by simp[hlt]
  generalize n.bridges[i]=b at hx hs0
  have hset:=mix_set hxl hs0
  have hu:(mix (n.bridges.map setP) n.bridges i)[(i:Int).toNat]? = some b:=by rw[Int.toNat_natCast,mix_get hxl];exact hx
  repeat' (first|refine qU ?_|refine qW ?_|((first|apply dX rfl|apply Da rfl rfl|apply Db rfl rfl qN);(focus ((try intro hg);first|exact S_ixO rfl rfl rfl (by omega) (by omega)|exact S_storeM (f:=bridgeV) (a:=setP b) rfl rfl hu rfl rfl (.inl rfl) rfl rfl|exact qMo));constructor)|refine qP ?_)
  refine loop_again (i+1) hlt (by omega) ?_
  rw[←hset]
  exact Wk_g some rfl rfl kqp
 rw[mix_all hxl (by omega)]
 have htk:=top_ticks 40
 have hp:=talk_Play (allP n) (allP_typed ht) trees (firstL B R)
 have hwh:(allP n).v = .agg [.slice ((((n.bridges.map setP).map bridgeV).drop 0).take n.bridges.length),.slice (n.links.map linkV)]:=by
  rw[whole_eq hxl];with_unfolding_all rfl
 rw[hwh]at hp
 change FnF _ _ [_,_,.slice ([⟨1,40,0,0⟩,⟨5,B,R,0⟩,⟨1,40,0,0⟩].map Doing.cells)] _ at hp
 rcases playA_cases (allP_typed ht) trees (firstL B R)with⟨f,hf,hne⟩|⟨hg,h0,h1,h2,hl,⟨o,t⟩,hon,hpl⟩
 ·rw[hf]at hp
  obtain⟨e,k⟩:=f
  simp only at hne
  rw[show onV (none,(e,k)) = .tuple [Net.v ⟨[],[]⟩,talkV [],faultV (e,k)] by with_unfolding_all rfl]at hp
  repeat' (first|refine qU ?_|refine qW ?_|((first|apply dX rfl|apply Da rfl rfl|apply Db rfl rfl qN);(focus ((try intro hg);first|exact S_call htk rfl|exact S_call hp rfl|exact qMo));constructor)|refine qP ?_)
  refine ret1 rfl qF ?_
  rfl
 rw[hpl]at hp
 rw[show onV (some (o,t),(0,0)) = .tuple [o.v,talkV t,faultV (0,0)] by with_unfolding_all rfl]at hp
 obtain⟨mg,mgt,mtl,hob,hids,l,hl0,hll,hvec⟩:=first_run ht (by omega) hg h2 (by omega) hon
 have hlv:=ref6_Live o mg
 have hlvl:(liveL o).length≤40:=by with_unfolding_all exact Nat.le_trans (List.length_filter_le _ _) mg.nl
 have hek:=endsK_live mg
 have hlin:=live_in mg
 have hln:=fun x (hx:x∈liveL o)=>mg.lk x (live_sub hx)
 obtain⟨NB,hNB⟩:∃ NB,NB=n.bridges.length:=⟨_,rfl⟩
 rw[←hNB]at hob hll hvec
 have hBN:B<NB:=by omega
 have hob2:(o.bridges.map bridgeV).length=NB:=by rw[List.length_map,hob]
 have hnb:=mg.nb
 obtain⟨bb,hbb⟩:∃ bb,o.bridges[B]? = some bb:=⟨_,List.getElem?_eq_getElem (by omega)⟩
 have hbb':o.bridges[(B:Int).toNat]? = some bb:=hbb
 have hib:=plan_Ident bb (mg.br _ (List.mem_of_getElem? hbb)) R
 have hidb:idN o R B=bb.id R:=idN_of hbb
 have hroot:∀ i,i<NB→((mAt l i).vec.root=bb.id R↔bv (rcN (liveL o) (reach0 NB B) NB) i=true):=fun i hi=>by
  rw[hvec i hi,←hidb,first_root mg R (by omega) hids (by omega),←hob]
  exact(rcN_all hek (by omega) i).symm
 have hrN:∀ k,(rcN (liveL o) (reach0 NB B) k).length=NB:=fun k=>by rw[rcN_len];with_unfolding_all simp[reach0]
 have hrR:∀ (ls:List Link) (s:List Bool),(rcR ls s).length=s.length:=rcR_len
 have hz0:(List.replicate NB false)[(B:Int).toNat]? = some false:=by rw[Int.toNat_natCast];simp[hBN]
 have hre:reach0 NB B=(List.replicate NB false).set B true:=by with_unfolding_all rfl
 have hl0':t[(R:Int).toNat]? = some l:=hl0
 generalize bb.id R=idb at hib hidb hroot
 repeat' (first|(apply dt rfl;case h=>exact S_mkM (f:=boolV1) (l:=NB) (c:=NB) false _ rfl rfl (by rw[hob2]) (by rw[hob2]) (Nat.le_refl _) (by omega) rfl rfl)|refine qU ?_|refine qW ?_|((first|apply dX rfl|apply Da rfl rfl|apply Db rfl rfl qN);(focus ((try intro hg);first|exact S_call htk rfl|exact S_call hp rfl|exact S_ixO rfl rfl rfl (by omega) (by omega)|exact S_storeM (f:=boolV1) (a:=true) rfl rfl hz0 rfl rfl (.inr ⟨rfl,inferInstance⟩) rfl rfl|exact qMo));constructor)|refine qP ?_)
 refine DW_loop (fun k:Nat=>⟨[(2,.dat false (.int .i64 B)),(3,.dat false (.int .i64 R)),(11,.ptr 11 0),(12,.ptr 12 0),(14,.own 86 0 0 NB),(92,.dat true (.int .i64 NB)),(93,.dat true (.int .i64 k))],[(11,.cells false true (o.cells.map (.dat true))),(12,.cells false true [.dat true (.slice (t.map mindsRow))]),(86,.row 0 false true 1 ((rcN (liveL o) (reach0 NB B) k).map boolV1))],153⟩)
  (fun k=>k≤NB) (fun k=>NB-k) 0 (Nat.zero_le _) (by rw[rcN,hre,←hob2];exact Wk_g some rfl rfl kqp) (fun k hk=>?_)
 by_cases hlk:k<NB
 ·repeat' (first|refine qU ?_|refine qW ?_|((first|apply dX rfl|apply Da rfl rfl|apply Db rfl rfl qN);(focus ((try intro hg);first|exact S_call hlv rfl|exact qMo));constructor)|refine qP ?_)
  refine DW_loop (fun j:Nat=>⟨[(2,.dat false (.int .i64 B)),(3,.dat false (.int .i64 R)),(11,.ptr 11 0),(12,.ptr 12 0),(14,.own 86 0 0 NB),(92,.dat true (.int .i64 NB)),(93,.dat true (.int .i64 k)),(96,.dat true (.slice ((liveL o).map linkV))),(97,.dat true (.int .i64 ((liveL o).map linkV).length)),(98,.dat true (.int .i64 j))],[(11,.cells false true (o.cells.map (.dat true))),(12,.cells false true [.dat true (.slice (t.map mindsRow))]),(86,.row 0 false true 1 ((rcR ((liveL o).take j) (rcN (liveL o) (reach0 NB B) k)).map boolV1))],153⟩)
   (fun j=>j≤(liveL o).length) (fun j=>(liveL o).length-j) 0 (Nat.zero_le _) (by rw[List.take_zero,show ∀ s,rcR [] s=s by with_unfolding_all exact fun _=>rfl];exact Wk_g some rfl rfl kqp) (fun j hj=>?_)
  have hml:((liveL o).map linkV).length=(liveL o).length:=by simp
  by_cases hlj:j<(liveL o).length
  ·have hy0:(liveL o)[j]? = some (liveL o)[j]:=by simp[hlj]
   have hy:(liveL o)[(j:Int).toNat]? = some (liveL o)[j]:=by simp[hlj]
   have hlo:=hln _ (List.getElem_mem hlj)
   have hrt:=rcR_take (s:=rcN (liveL o) (reach0 NB B) k) hy0
   generalize (liveL o)[j]=x at hy hlo hrt
   have a0:=hlo.a0
   have a1:=hlo.a1
   have b0:=hlo.b0
   have b1:=hlo.b1
   rw[hob]at a1 b1
   have hsl:(rcR ((liveL o).take j) (rcN (liveL o) (reach0 NB B) k)).length=NB:=by rw[hrR,hrN]
   generalize rcR ((liveL o).take j) (rcN (liveL o) (reach0 NB B) k)=s at hrt hsl
   have ra:=bv_row (s:=s) (i:=x.a.toNat) (by omega)
   have rb:=bv_row (s:=s) (i:=x.b.toNat) (by omega)
   have ga:=bv_get (s:=s) (i:=x.a.toNat) (by omega)
   have gb:(s.set x.a.toNat true)[x.b.toNat]? = some (bv (s.set x.a.toNat true) x.b.toNat):=bv_get (by rw[List.length_set];omega)
   unfold rcS at hrt
   cases h1:bv s x.a.toNat with
   | true =>
    rw[h1]at ra ga hrt
    rw[Bool.true_or,if_pos rfl]at hrt
    repeat' (first|refine qU ?_|refine qW ?_|((first|apply dX rfl|apply Da rfl rfl|apply Db rfl rfl qN);(focus ((try intro hg);first|exact S_ixM rfl rfl (by omega) hy|exact S_ixO rfl rfl rfl (by omega) (by omega)|exact S_load_rptr rfl rfl ra rfl|exact S_storeM (f:=boolV1) (a:=true) rfl rfl ga rfl rfl (.inr ⟨rfl,inferInstance⟩) rfl rfl|exact S_storeM (f:=boolV1) (a:=true) rfl rfl gb rfl rfl (.inr ⟨rfl,inferInstance⟩) rfl rfl|exact qMo));constructor)|refine qP ?_)
    exact loop_again (j+1) hlj (by omega) (by rw[hrt];exact Wk_g some rfl rfl kqp)
   | false =>
    rw[h1]at ra ga hrt
    cases h2:bv s x.b.toNat with
    | true =>
     rw[h2]at rb hrt
     rw[Bool.false_or,if_pos rfl]at hrt
     repeat' (first|refine qU ?_|refine qW ?_|((first|apply dX rfl|apply Da rfl rfl|apply Db rfl rfl qN);(focus ((try intro hg);first|exact S_ixM rfl rfl (by omega) hy|exact S_ixO rfl rfl rfl (by omega) (by omega)|exact S_load_rptr rfl rfl ra rfl|exact S_load_rptr rfl rfl rb rfl|exact S_storeM (f:=boolV1) (a:=true) rfl rfl ga rfl rfl (.inr ⟨rfl,inferInstance⟩) rfl rfl|exact S_storeM (f:=boolV1) (a:=true) rfl rfl gb rfl rfl (.inr ⟨rfl,inferInstance⟩) rfl rfl|exact qMo));constructor)|refine qP ?_)
     exact loop_again (j+1) hlj (by omega) (by rw[hrt];exact Wk_g some rfl rfl kqp)
    | false =>
     rw[h2]at rb hrt
     rw[Bool.false_or,if_neg (by decide)]at hrt
     repeat' (first|refine qU ?_|refine qW ?_|((first|apply dX rfl|apply Da rfl rfl|apply Db rfl rfl qN);(focus ((try intro hg);first|exact S_ixM rfl rfl (by omega) hy|exact S_ixO rfl rfl rfl (by omega) (by omega)|exact S_load_rptr rfl rfl ra rfl|exact S_load_rptr rfl rfl rb rfl|exact qMo));constructor)|refine qP ?_)
     exact loop_again (j+1) hlj (by omega) (by rw[hrt];exact Wk_g some rfl rfl kqp)
  ·rw[List.take_of_length_le (by omega)]
   repeat' (first|refine qU ?_|refine qW ?_|((first|apply dX rfl|apply Da rfl rfl|apply Db rfl rfl qN);(focus ((try intro hg);first|exact qMo));constructor)|refine qP ?_)
   exact loop_again (k+1) hlk (by omega) (by rw[rcN];exact Wk_g some rfl rfl kqp)
 have hkN:k=NB:=by omega
 subst hkN
 have hml:(l.map Mind.cells).length=l.length:=by simp
 have hrn:=hrN k
 generalize rcN (liveL o) (reach0 k B) k=s at hroot hrn
 repeat' (first|refine qU ?_|refine qW ?_|((first|apply dX rfl|apply Da rfl rfl|apply Db rfl rfl qN);(focus ((try intro hg);first|exact S_ixM rfl rfl (by omega) hbb'|exact S_call hib rfl|exact S_ixM rfl rfl (by omega) hl0'|exact qMo));constructor)|refine qP ?_)
 refine DW_loop (fun i:Nat=>⟨[(14,.own 86 0 0 k),(17,.dat true (.int .u64 idb)),(135,.dat true (.slice (l.map Mind.cells))),(136,.dat true (.int .i64 (l.map Mind.cells).length)),(137,.dat true (.int .i64 i))],[(86,.row 0 false true 1 (s.map boolV1))],153⟩)
  (fun i=>i≤k) (fun i=>k-i) 0 (Nat.zero_le _) (Wk_g some rfl rfl kqp) (fun i hi=>?_)
 by_cases hli:i<k
 ·have hx:l[(i:Int).toNat]? = some (mAt l i):=by rw[Int.toNat_natCast];exact mAt_get (by omega)
  have hri:=hroot i hli
  have ri:(s.map boolV1)[(i:Int).toNat]? = some (boolV1 (bv s i)):=by rw[Int.toNat_natCast];exact bv_row (by omega)
  generalize mAt l i=m at hx hri
  cases hbv:bv s i with
  | true =>
   have hr:=hri.2 hbv
   rw[hbv]at ri
   repeat' (first|refine qU ?_|refine qW ?_|((first|apply dX rfl|apply Da rfl rfl|apply Db rfl rfl qN);(focus ((try intro hg);first|exact S_ixM rfl rfl (by omega) hx|exact S_ixO rfl rfl rfl (by omega) (by omega)|exact S_load_rptr rfl rfl ri rfl|exact qMo));constructor)|refine qP ?_)
   exact loop_again (i+1) hli (by omega) (Wk_g some rfl rfl kqp)
  | false =>
   have hr:m.vec.root≠idb:=fun e=>by rw[hri.1 e]at hbv;cases hbv
   rw[hbv]at ri
   repeat' (first|refine qU ?_|refine qW ?_|((first|apply dX rfl|apply Da rfl rfl|apply Db rfl rfl qN);(focus ((try intro hg);first|exact S_ixM rfl rfl (by omega) hx|exact S_ixO rfl rfl rfl (by omega) (by omega)|exact S_load_rptr rfl rfl ri rfl|exact qMo));constructor)|refine qP ?_)
   exact loop_again (i+1) hli (by omega) (Wk_g some rfl rfl kqp)
 ·repeat' (first|refine qU ?_|refine qW ?_|((first|apply dX rfl|apply Da rfl rfl|apply Db rfl rfl qN);(focus ((try intro hg);first|exact qMo));constructor)|refine qP ?_)
  refine ret1 rfl qF ?_
  rfl
end Go.Proofs.YtcdhlofhhcgohaaGreat
