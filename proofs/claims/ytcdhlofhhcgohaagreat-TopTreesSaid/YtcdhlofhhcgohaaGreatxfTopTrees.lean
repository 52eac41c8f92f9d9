/- Law: TopTrees. -/
import Derived.Test.YtcdhlofhhcgohaaGreatxcFlt
import Derived.Test.YtcdhlofhhcgohaaGreatxdTopS
import Derived.Test.YtcdhlofhhcgohaaGreatxdTopW
namespace Go.Proofs.YtcdhlofhhcgohaaGreat
open Go.RowKit
theorem tre_links (k f:Nat) (R:Region):(treN k f R).links=(lineN k true).links:=rfl
theorem regT1 (v:Int):treeOf (rvR v).ways v=(1:Nat):=by
 show(if v=v then(1:Int)else 0)=_
 rw[if_pos rfl];rfl
theorem regT0 {v:Int} (h:v≠7):treeOf (rvR v).ways 7=(0:Nat):=by
 show(if v=7 then(1:Int)else 0)=_
 rw[if_neg h];rfl
attribute [local irreducible] SStep DW DWin DOps thenQ inBlk loopQ retQ retQG FnF FnG FnI FnM Wk IntKind.wrap IntKind.andI IntKind.orI IntKind.xorI IntKind.andNotI IntKind.shlI IntKind.shrI playA onA ticksN tkN planF portsOf roleF opensT planS lineN treN sendR fldP rvR
set_option maxHeartbeats 8000000 in
theorem law_TopTrees (k first vid:Int):FnF Tryz.prog 10 [.int .i64 k,.int .i64 first,.int .i64 vid] (.bool true):=by
 refine fnF_of Tryz.func10 rfl rfl rfl ?_
 simp only[envOf]
 by_cases c1:k<4
 ·repeat' (first|refine qU ?_|refine qW ?_|((first|apply dX rfl|apply Da rfl rfl|apply Db rfl rfl qN);(focus ((try intro hg);first|exact S_call top_alive rfl|exact qMo));constructor)|refine qP ?_)
  refine ret1 rfl qF ?_
  rfl
 by_cases c2:12<k
 ·repeat' (first|refine qU ?_|refine qW ?_|((first|apply dX rfl|apply Da rfl rfl|apply Db rfl rfl qN);(focus ((try intro hg);first|exact S_call top_alive rfl|exact qMo));constructor)|refine qP ?_)
  refine ret1 rfl qF ?_
  rfl
 by_cases c3:first<1
 ·repeat' (first|refine qU ?_|refine qW ?_|((first|apply dX rfl|apply Da rfl rfl|apply Db rfl rfl qN);(focus ((try intro hg);first|exact S_call top_alive rfl|exact qMo));constructor)|refine qP ?_)
  refine ret1 rfl qF ?_
  rfl
 by_cases c4:k≤first
 ·repeat' (first|refine qU ?_|refine qW ?_|((first|apply dX rfl|apply Da rfl rfl|apply Db rfl rfl qN);(focus ((try intro hg);first|exact S_call top_alive rfl|exact qMo));constructor)|refine qP ?_)
  refine ret1 rfl qF ?_
  rfl
 by_cases c5:vid<1
 ·repeat' (first|refine qU ?_|refine qW ?_|((first|apply dX rfl|apply Da rfl rfl|apply Db rfl rfl qN);(focus ((try intro hg);first|exact S_call top_alive rfl|exact qMo));constructor)|refine qP ?_)
  refine ret1 rfl qF ?_
  rfl
 by_cases c6:4094<vid
 ·repeat' (first|refine qU ?_|refine qW ?_|((first|apply dX rfl|apply Da rfl rfl|apply Db rfl rfl qN);(focus ((try intro hg);first|exact S_call top_alive rfl|exact qMo));constructor)|refine qP ?_)
  refine ret1 rfl qF ?_
  rfl
 by_cases c7:vid=7
 ·repeat' (first|refine qU ?_|refine qW ?_|((first|apply dX rfl|apply Da rfl rfl|apply Db rfl rfl qN);(focus ((try intro hg);first|exact S_call top_alive rfl|exact qMo));constructor)|refine qP ?_)
  refine ret1 rfl qF ?_
  rfl
 obtain⟨K,rfl⟩:∃ K:Nat,k=(K:Int):=⟨k.toNat,by omega⟩
 obtain⟨F,rfl⟩:∃ F:Nat,first=(F:Int):=⟨first.toNat,by omega⟩
 have hv:1≤vid∧vid≤4094:=by omega
 have hln:=top_lineC K (by omega) true
 have htk:=top_ticks 90
 have hg:=tre_good (k:=K) (f:=F) (by omega) hv
 have hone:=tre_one K F (rvR vid)
 have hw0:=tre_wrong (k:=K) (f:=F) (by omega) hv
 have hty:=tre_typed K F vid
 have htn:=tre_len K F (rvR vid)
 have hd0:=dist_of hg hone ((tre_dist (rvR vid) 0 0 (dRing K 0)).trans (tre_dist0 K (by omega) (by omega) F (by omega) (by omega)))
 have hd1:=dist_of hg hone ((tre_dist (rvR vid) 1 F (dRing K F)).trans (tre_dist1 K (by omega) (by omega) F (by omega) (by omega)))
 have hf0:=tre_fld0 K (by omega) (by omega) F (by omega) (by omega)
 have hf1:=tre_fld1 K (by omega) (by omega) F (by omega) (by omega)
 rw[←tre_plan (rvR vid),←tre_links K F (rvR vid)]at hf0 hf1
 have hp:=talk_Play (treN K F (rvR vid)) hty 2 [⟨1,90,0,0⟩]
 rw[playA_loop hw0 (by decide) (by decide) (by simp),on_tick (by decide),on_nil]at hp
 have htg:goodT (treN K F (rvR vid)) (ticksN (treN K F (rvR vid)) (start0 (treN K F (rvR vid)) 2) (90:Int).toNat):=ticksN_good (start0_good (by decide)) _
 have htl:(ticksN (treN K F (rvR vid)) (start0 (treN K F (rvR vid)) 2) (90:Int).toNat).length=2:=by rw[ticks_len];simp[start0]
 obtain⟨l0,hl0,hll0,hr0⟩:=tre_root hg hd0 (trees:=2) (tree:=0) (by decide) (by decide)
 obtain⟨l1,hl1,hll1,hr1⟩:=tre_root hg hd1 (trees:=2) (tree:=1) (by decide) (by decide)
 have hat0:=fun(b:Nat) p (hb:b<(treN K F (rvR vid)).bridges.length) (hp:p∈portsOf (treN K F (rvR vid)).links b)=>both_at hg hone (tree:=0) hd0 (start0_good (trees:=2) (by decide)) (by simp[start0]) (T:=(90:Int).toNat) (by decide) hb hp
 have hat1:=fun(b:Nat) p (hb:b<(treN K F (rvR vid)).bridges.length) (hp:p∈portsOf (treN K F (rvR vid)).links b)=>both_at hg hone (tree:=1) hd1 (start0_good (trees:=2) (by decide)) (by simp[start0]) (T:=(90:Int).toNat) (by decide) hb hp
 change FnF _ _ _ (onV (some (_,ticksN (treN K F (rvR vid)) (start0 (treN K F (rvR vid)) 2) (90:Int).toNat),(0,0)))at hp
 change (ticksN (treN K F (rvR vid)) (start0 (treN K F (rvR vid)) 2) (90:Int).toNat)[(0:Int).toNat]? = _ at hl0
 change (ticksN (treN K F (rvR vid)) (start0 (treN K F (rvR vid)) 2) (90:Int).toNat)[(1:Int).toNat]? = _ at hl1
 generalize ticksN (treN K F (rvR vid)) (start0 (treN K F (rvR vid)) 2) (90:Int).toNat=t at hp htg htl hat0 hat1 hl0 hl1
 have hfl0:Flood (treN K F (rvR vid)) t (opX (planS (treN K F (rvR vid)) 0 0 (dRing K 0))) 7 frmG (rvR vid) 0:=flood_of hg hone (rvR_wrong hv) (regT0 c7) (by omega) (by omega) hat0 (by decide)
 have hfl1:Flood (treN K F (rvR vid)) t (opX (planS (treN K F (rvR vid)) 1 F (dRing K F))) vid frmG (rvR vid) 1:=flood_of hg hone (rvR_wrong hv) (regT1 vid) (by omega) (by omega) hat1 hv
 obtain⟨s0,b0,hs0,hn0⟩:=flood_send hfl0 (frm:=0) (by rw[htn];omega) (by omega) hf0
 obtain⟨s1,b1,hs1,hn1⟩:=flood_send hfl1 (frm:=0) (by rw[htn];omega) (by omega) hf1
 have hc0:=top_send (treN K F (rvR vid)) hty hw0 (by omega) t htg (by omega) 0 7 hs0
 have hc1:=top_send (treN K F (rvR vid)) hty hw0 (by omega) t htg (by omega) 0 vid hs1
 obtain⟨B0,hbr0⟩:∃ b,(treN K F (rvR vid)).bridges[0]? = some b:=⟨_,tre_get (by omega)⟩
 obtain⟨B1,hbr1⟩:∃ b,(treN K F (rvR vid)).bridges[F]? = some b:=⟨_,tre_get (by omega)⟩
 have hx0:l0[((K:Int)-1).toNat]? = some (mAt l0 (K-1)):=by rw[show((K:Int)-1).toNat=K-1 by omega];exact mAt_get (by omega)
 have hx1:l1[((K:Int)-1).toNat]? = some (mAt l1 (K-1)):=by rw[show((K:Int)-1).toNat=K-1 by omega];exact mAt_get (by omega)
 have hr0:=hr0 (K-1) (by omega)
 have hr1:=hr1 (K-1) (by omega)
 rw[idN_of hbr0]at hr0
 rw[idN_of hbr1]at hr1
 have hb0:=hg.br _ (List.mem_of_getElem? hbr0)
 have hb1:=hg.br _ (List.mem_of_getElem? hbr1)
 have hi0:=plan_Ident _ hb0 0
 have hi1:=plan_Ident _ hb1 1
 rw[←tre_made (k:=K) (f:=F) (by omega) vid]at hbr0 hbr1
 have hnb:=lineN_len K true
 have hA:((lineN K true).bridges.map (setW vid)).length=(lineN K true).bridges.length:=by simp
 have hXl:(((lineN K true).bridges.map (setW vid)).set F ⟨10+(F:Int),[32768,4096],rvR vid⟩).length=(lineN K true).bridges.length:=by simp
 have hbF:((lineN K true).bridges.map (setW vid))[(F:Int).toNat]? = some ⟨10+(F:Int),[],rvR vid⟩:=by
  with_unfolding_all
   unfold lineN
   rw[List.getElem?_map,List.getElem?_map,List.getElem?_range (show(F:Int).toNat<K by omega)]
   rfl
 have hwh:(treN K F (rvR vid)).v = .agg [.slice ((((((lineN K true).bridges.map (setW vid)).set F ⟨10+(F:Int),[32768,4096],rvR vid⟩).map bridgeV).drop 0).take (lineN K true).bridges.length),.slice ((((lineN K true).links.map linkV).drop 0).take (lineN K true).links.length)]:=by
  rw[whole_eq hXl,whole_eq rfl,tre_made (by omega)]
  with_unfolding_all rfl
 rw[hwh]at hp
 change FnF _ _ [_,_,.slice ([⟨1,90,0,0⟩].map Doing.cells)] (.tuple [(treN K F (rvR vid)).v,talkV t,faultV (0,0)])at hp
 clear hwh hs0 hs1 hfl0 hfl1 hf0 hf1 hd0 hd1 hat0 hat1
 generalize mAt l0 (K-1)=m0 at hx0 hr0
 generalize mAt l1 (K-1)=m1 at hx1 hr1
 generalize B0.id 0=id0 at hi0 hr0
 generalize B1.id 1=id1 at hi1 hr1
 generalize treN K F (rvR vid)=n at hp hc0 hc1 htn hll0 hll1
 have hm0:(l0.map Mind.cells).length=l0.length:=by simp
 have hm1:(l1.map Mind.cells).length=l1.length:=by simp
 have hs0l:(s0.map outV).length=s0.length:=by simp
 have hs1l:(s1.map outV).length=s1.length:=by simp
 have htm:(t.map mindsRow).length=t.length:=by simp
 repeat' (first|refine dstep rfl (.plain rfl (S_callW [900,901] (lineM (lineN K true)) hln rfl (lineM_hs rfl rfl) (fun _ _=>rfl) (fun _ _ _ _ h=>by cases h) (fun _=>lineM_mut) lineM_app (fun _=>lineM_keys) rfl rfl rfl)) ?_|refine qU ?_|refine qW ?_|((first|apply dX rfl|apply Da rfl rfl|apply Db rfl rfl qN);(focus ((try intro hg);first|exact S_call top_alive rfl|exact qMo));constructor)|refine qP ?_)
 refine DW_loop (fun i:Nat=>⟨[(0,.dat false (.int .i64 K)),(1,.dat false (.int .i64 F)),(2,.dat false (.int .i64 vid)),(7,.ptr 7 0),(49,.dat true (.int .i64 (lineN K true).bridges.length)),(50,.dat true (.int .i64 i))],[(7,.cells false true [.own 900 0 0 (lineN K true).bridges.length,.own 901 0 0 (lineN K true).links.length]),(901,.row 0 false true 6 ((lineN K true).links.map linkV)),(900,.row 0 false true 5 ((mix ((lineN K true).bridges.map (setW vid)) (lineN K true).bridges i).map bridgeV))],148⟩)
  (fun i=>i≤(lineN K true).bridges.length) (fun i=>(lineN K true).bridges.length-i) 0 (Nat.zero_le _) (by rw[mix_zero];exact Wk_g some rfl rfl kqp) (fun i hi=>?_)
 by_cases hlt:i<(lineN K true).bridges.length
 ·have hx:(lineN K true).bridges[i]? = some (lineN K true).bridges[i]:=by simp[hlt]
  have hsw:((lineN K true).bridges.map (setW vid))[i]? = some (setW vid (lineN K true).bridges[i]):=by simp[hlt]
  generalize (lineN K true).bridges[i]=b at hx hsw
  have hset:=mix_set hA hsw
  have hml:(mix ((lineN K true).bridges.map (setW vid)) (lineN K true).bridges i).length=(lineN K true).bridges.length:=mix_len hA
  have hu:(mix ((lineN K true).bridges.map (setW vid)) (lineN K true).bridges i)[(i:Int).toNat]? = some b:=by rw[Int.toNat_natCast,mix_get hA];exact hx
  repeat' (first|refine qU ?_|refine qW ?_|((first|apply dX rfl|apply Da rfl rfl|apply Db rfl rfl qN);(focus ((try intro hg);first|exact S_ixO rfl rfl rfl (by omega) (by omega)|exact S_storeM (f:=bridgeV) (a:=setW vid b) rfl rfl hu rfl rfl (.inl rfl) rfl rfl|exact qMo));constructor)|refine qP ?_)
  refine loop_again (i+1) hlt (by omega) ?_
  rw[←hset]
  exact Wk_g some rfl rfl kqp
 rw[mix_all hA (by omega)]
 have hi:i=(lineN K true).bridges.length:=by omega
 have hq0:((((lineN K true).bridges.map (setW vid)).set F ⟨10+(F:Int),[32768,4096],rvR vid⟩).map bridgeV)[(0:Int).toNat]? = some (bridgeV B0):=by rw[List.getElem?_map];exact congrArg (Option.map bridgeV) hbr0
 have hq1:((((lineN K true).bridges.map (setW vid)).set F ⟨10+(F:Int),[32768,4096],rvR vid⟩).map bridgeV)[(F:Int).toNat]? = some (bridgeV B1):=by rw[List.getElem?_map,Int.toNat_natCast];exact congrArg (Option.map bridgeV) hbr1
 repeat' (first|refine qU ?_|refine qW ?_|((first|apply dX rfl|apply Da rfl rfl|apply Db rfl rfl qN);(focus ((try intro hg);first|exact S_ixO rfl rfl rfl (by omega) (by omega)|exact S_storeM (f:=bridgeV) (a:=⟨10+(F:Int),[32768,4096],rvR vid⟩) rfl rfl hbF rfl rfl (.inl rfl) rfl rfl|exact S_call htk rfl|exact S_call hp rfl|exact S_ixM rfl rfl (by omega) hl0|exact S_ixM rfl rfl (by omega) hl1|exact S_ixM rfl rfl (by omega) hx0|exact S_ixM rfl rfl (by omega) hx1|exact S_load_rptr rfl rfl hq0 rfl|exact S_load_rptr rfl rfl hq1 rfl|exact S_call hi0 rfl|exact S_call hi1 rfl|exact S_call hc0 rfl|exact S_call hc1 rfl|exact qMo));constructor)|refine qP ?_)
 refine ret1 rfl qF ?_
 rfl
end Go.Proofs.YtcdhlofhhcgohaaGreat
