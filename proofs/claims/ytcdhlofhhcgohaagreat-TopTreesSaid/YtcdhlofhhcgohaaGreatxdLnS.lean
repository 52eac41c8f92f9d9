/- Contract: lan.Send. -/
import Derived.Test.YtcdhlofhhcgohaaGreatxbApl
import Derived.Test.YtcdhlofhhcgohaaGreatxdGtp
import Derived.Test.YtcdhlofhhcgohaaGreatxdPlS
import Derived.Test.YtcdhlofhhcgohaaGreatxdTlw
namespace Go.Proofs.YtcdhlofhhcgohaaGreat
open Go.RowKit
def bkP (p:Bool×List Ent):D := .dat p.1 (.slice (p.2.map entV))
instance : DatI bkP:=⟨fun p=>⟨p.1,_,rfl⟩⟩
def bkT (b:Bool) (bs:List (List Ent)):List (Bool×List Ent):=bs.map fun l=>(b,l)
theorem bkT_len (b:Bool) (bs:List (List Ent)):(bkT b bs).length=bs.length:=by simp[bkT]
theorem bkT_get {b:Bool} {bs:List (List Ent)} {i:Nat} {l:List Ent} (h:bs[i]? = some l):(bkT b bs)[i]? = some (b,l):=by unfold bkT;rw[List.getElem?_map,h];rfl
theorem bkT_set (b:Bool) (bs:List (List Ent)) (i:Nat) (l:List Ent):(bkT b bs).set i (b,l)=bkT b (bs.set i l):=by unfold bkT;rw[List.map_set]
theorem bk_flat : ∀ bs:List (List Ent),((bs.map bookR).flatten).map (D.dat false)=(bkT false bs).map bkP
 | []=>rfl
 | l::r=>by
  have ih:=bk_flat r
  rw[List.map_cons,List.flatten_cons,List.map_append,ih];rfl
theorem bk_out {C:Cf} {m:Mem} {g:Nat} {v:Value} {bs:List (List Ent)} (hm:HoldsM C m) (hg:m.at g = .cells true true ((bkT true bs).map bkP)) (h:RdS C m (.sl g bs.length) v):RdD C m (.dat true (.slice (bs.map bookR))) v:=by
 refine rd_sl (sz:=1) (fl:=true) hm hg (fun _=>rfl) _ (fun i e h=>?_) (fun i j e x h1 h2=>?_) (by simp) h
 ·rw[List.getElem?_map]at h
  obtain⟨r,_,rfl⟩:=Option.map_eq_some_iff.1 h
  rfl
 ·rw[List.getElem?_map]at h1
  obtain⟨r,hr,rfl⟩:=Option.map_eq_some_iff.1 h1
  have hj:j<1:=by have:=(List.getElem?_eq_some_iff.1 h2).1;exact this
  obtain rfl:j=0:=by omega
  rw[Nat.mul_one,Nat.add_zero,List.getElem?_map,bkT_get hr]
  injection h2 with h2
  subst h2
  exact⟨rfl,_,_,rfl,rfl,fun _=>.inl rfl⟩
theorem relayS_len (r:Region) (gs:List Gate) (l:List Ent) (port:Int) (f:Frame):(relayS r gs l port f).1.length≤gs.length:=by
 unfold relayS
 repeat' split
 all_goals try exact Nat.zero_le _
 unfold relayT
 split
 ·exact Nat.zero_le _
 ·unfold relayG
  split
  ·exact Nat.zero_le _
  ·exact outsG_len ..
theorem gates_len {n:Net} (h:n.good) (t:List (List Mind)) (b vid:Int):(gatesOf n t b vid).length≤81:=by
 unfold gatesOf
 rw[List.length_cons,List.length_map]
 have:=ports_le h b
 omega
theorem onA_nil {n:Net} {t:List (List Mind)} (h0:n.wrong.1=0):onA n t []=(some (n,t),(0,0)):=by
 unfold onA
 rw[if_neg (by omega),if_neg (by simp),onLoop]
theorem drop_mid {α:Type} {pre todo post:List α}:((pre++(todo++post)).drop pre.length).take todo.length=todo:=by rw[List.drop_left,List.take_left]
attribute [local irreducible] SStep DW DWin DOps thenQ inBlk loopQ retQ retQG FnF FnG FnI FnM Wk IntKind.wrap IntKind.andI IntKind.orI IntKind.xorI IntKind.andNotI IntKind.shlI IntKind.shrI Net.wrong onA onV Frame.wrong relayS gatesOf goS comesOf seenOf treeOf mix bkT
set_option maxRecDepth 8000 in
set_option maxHeartbeats 16000000 in
theorem lan_SendR (n:Net) (ht:n.typed) (h0:n.wrong.1=0) (t:List (List Mind)) (htt:goodT n t) (h1:1≤t.length) (bs0:List (List Ent)) (hbl:bs0.length≤1048576) (hbe:∀ l∈bs0,l.length≤1048576) (frm vid:Int) (f:Frame) (hf:f.ok) :
  FnF Tryz.prog 22 [n.v,talkV t,.slice (bs0.map bookR),.int .i64 frm,.int .i64 vid,f.v] (sendR n t bs0 frm vid f).v:=by
 refine fnF_of Tryz.func22 rfl rfl rfl ?_
 simp only[envOf,talkV]
 have hg:=((Net.wrong_iff ht).1 h0).1
 have hon:=talk_On n ht t (fun _=>⟨htt,h1⟩) []
 rw[onA_nil h0,show onV (some (n,t),(0,0)) = .tuple [n.v,talkV t,faultV (0,0)] by with_unfolding_all rfl]at hon
 have hmb:(bs0.map bookR).length=bs0.length:=by simp
 have hmn:(n.bridges.map bridgeV).length=n.bridges.length:=by simp
 have hmt:(t.map mindsRow).length=t.length:=by simp
 have hnb:=hg.nb
 have htl:=htt.l
 have hfw:=frame_Wrong f hf
 unfold sendR
 by_cases c1:bs0.length≠n.bridges.length
 ·have c1':¬bs0.length=n.bridges.length:=c1
  rw[if_pos c1]
  repeat' (first|refine qU ?_|refine qW ?_|((first|apply dX rfl|apply Da rfl rfl|apply Db rfl rfl qN);(focus ((try intro hg);first|exact S_call hon rfl|exact S_callv rfl rfl (lan_bad 8)|exact qMo));constructor)|refine qP ?_)
  refine retN (.tmp rfl qF (.tmp rfl qF (.tmp rfl qF (.cellA inferInstance rfl rfl rfl rfl qF .nil)))) ?_
  rfl
 rw[if_neg c1]
 have c1:bs0.length=n.bridges.length:=Decidable.not_not.1 c1
 by_cases c2:frm<0∨(n.bridges.length:Int)≤frm
 ·rw[if_pos c2]
  by_cases c2a:frm<0
  ·repeat' (first|refine qU ?_|refine qW ?_|((first|apply dX rfl|apply Da rfl rfl|apply Db rfl rfl qN);(focus ((try intro hg);first|exact S_call hon rfl|exact S_callv rfl rfl (lan_bad 6)|exact qMo));constructor)|refine qP ?_)
   refine retN (.tmp rfl qF (.tmp rfl qF (.tmp rfl qF (.cellA inferInstance rfl rfl rfl rfl qF .nil)))) ?_
   rfl
  ·repeat' (first|refine qU ?_|refine qW ?_|((first|apply dX rfl|apply Da rfl rfl|apply Db rfl rfl qN);(focus ((try intro hg);first|exact S_call hon rfl|exact S_callv rfl rfl (lan_bad 6)|exact qMo));constructor)|refine qP ?_)
   refine retN (.tmp rfl qF (.tmp rfl qF (.tmp rfl qF (.cellA inferInstance rfl rfl rfl rfl qF .nil)))) ?_
   rfl
 rw[if_neg c2]
 by_cases c3:vid<1∨4094<vid
 ·rw[if_pos c3]
  by_cases c3a:vid<1
  ·repeat' (first|refine qU ?_|refine qW ?_|((first|apply dX rfl|apply Da rfl rfl|apply Db rfl rfl qN);(focus ((try intro hg);first|exact S_call hon rfl|exact S_callv rfl rfl (lan_bad 3)|exact qMo));constructor)|refine qP ?_)
   refine retN (.tmp rfl qF (.tmp rfl qF (.tmp rfl qF (.cellA inferInstance rfl rfl rfl rfl qF .nil)))) ?_
   rfl
  ·repeat' (first|refine qU ?_|refine qW ?_|((first|apply dX rfl|apply Da rfl rfl|apply Db rfl rfl qN);(focus ((try intro hg);first|exact S_call hon rfl|exact S_callv rfl rfl (lan_bad 3)|exact qMo));constructor)|refine qP ?_)
   refine retN (.tmp rfl qF (.tmp rfl qF (.tmp rfl qF (.cellA inferInstance rfl rfl rfl rfl qF .nil)))) ?_
   rfl
 rw[if_neg c3]
 cases c4:f.tagged with
 | true =>
  rw[if_pos rfl]
  obtain⟨f1,f2,f3,f4,f5,f6,f7,f8⟩:=f
  simp only at c4
  subst c4
  repeat' (first|refine qU ?_|refine qW ?_|((first|apply dX rfl|apply Da rfl rfl|apply Db rfl rfl qN);(focus ((try intro hg);first|exact S_call hon rfl|exact S_callv rfl rfl (lan_bad 1)|exact qMo));constructor)|refine qP ?_)
  refine retN (.tmp rfl qF (.tmp rfl qF (.tmp rfl qF (.cellA inferInstance rfl rfl rfl rfl qF .nil)))) ?_
  rfl
 | false =>
 rw[if_neg (by decide)]
 obtain⟨f1,f2,f3,f4,f5,f6,f7,f8⟩:=f
 simp only at c4
 subst c4
 generalize hff:(⟨f1,f2,false,f4,f5,f6,f7,f8⟩:Frame)=f at hf hfw ⊢
 have hfc:Frame.cells ⟨f1,f2,false,f4,f5,f6,f7,f8⟩=f.cells:=by rw[hff]
 by_cases c5:f.wrong≠0
 ·rw[if_pos c5]
  have c5':¬f.wrong=0:=c5
  subst hff
  generalize Frame.wrong _=e at hfw c5' ⊢
  repeat' (first|refine qU ?_|refine qW ?_|((first|apply dX rfl|apply Da rfl rfl|apply Db rfl rfl qN);(focus ((try intro hg);first|exact S_call hon rfl|exact S_call hfw rfl|exact S_callv rfl rfl (lan_bad e)|exact qMo));constructor)|refine qP ?_)
  refine retN (.tmp rfl qF (.tmp rfl qF (.tmp rfl qF (.cellA inferInstance rfl rfl rfl rfl qF .nil)))) ?_
  rfl
 rw[if_neg c5]
 have c5:f.wrong=0:=Decidable.not_not.1 c5
 rw[c5]at hfw
 subst hff
 repeat' (first|refine qU ?_|refine qW ?_|((first|apply dX rfl|apply Da rfl rfl|apply Db rfl rfl qN);(focus ((try intro hg);first|exact S_call hon rfl|exact S_call hfw rfl|exact qMo));constructor)|refine qP ?_)
 generalize hff:(⟨f1,f2,false,f4,f5,f6,f7,f8⟩:Frame)=f at hf
 refine DW_loop (fun k:Nat=>⟨[(3,.dat false (.int .i64 frm)),(4,.dat false (.int .i64 vid)),(6,.ptr 6 0),(7,.ptr 7 0),(11,.ptr 11 0),(15,.ptr 15 0),(16,.dat true (.fn 61 [])),(2,.dat false (.slice (bs0.map bookR))),(109,.dat false (.slice (n.bridges.map bridgeV))),(110,.dat true (.int .i64 (n.bridges.map bridgeV).length)),(111,.dat true (.int .i64 k))],[(6,.cells false true (n.cells.map (.dat false))),(7,.cells false true [.dat true (.slice (t.map mindsRow))]),(11,.cells false true (f.cells.map (.dat false))),(15,.cells false true [.dat true (.int .i64 0),.dat true (.int .i64 0)])],234⟩)
  (fun k=>k≤n.bridges.length∧n.bridges.any (fun b=>decide ((t.length:Int)≤treeOf b.region.ways vid))=(n.bridges.drop k).any (fun b=>decide ((t.length:Int)≤treeOf b.region.ways vid))) (fun k=>n.bridges.length-k) 0 ⟨Nat.zero_le _,rfl⟩ (by subst hff;exact Wk_g some rfl rfl kqp) (fun k hR=>?_)
 obtain⟨hk,hany⟩:=hR
 by_cases hlt:k<n.bridges.length
 ·have hx:n.bridges[(k:Int).toNat]? = some n.bridges[k]:=by simp[hlt]
  rw[List.drop_eq_getElem_cons hlt,List.any_cons]at hany
  have hbo:=hg.br n.bridges[k] (List.getElem_mem hlt)
  generalize n.bridges[k]=b at hx hany hbo
  have htr:=region_Tree b.region vid hbo.r (by omega)
  by_cases hbad:(t.length:Int)≤treeOf b.region.ways vid
  ·rw[decide_eq_true hbad,Bool.true_or]at hany
   rw[hany,if_pos rfl]
   generalize treeOf b.region.ways vid=tr at htr hbad
   repeat' (first|refine qU ?_|refine qW ?_|((first|apply dX rfl|apply Da rfl rfl|apply Db rfl rfl qN);(focus ((try intro hg);first|exact S_ixM rfl rfl (by omega) hx|exact S_call htr rfl|exact S_callv rfl rfl (lan_bad 5)|exact qMo));constructor)|refine qP ?_)
   refine retN (.tmp rfl qF (.tmp rfl qF (.tmp rfl qF (.cellA inferInstance rfl rfl rfl rfl qF .nil)))) ?_
   rfl
  ·rw[decide_eq_false hbad,Bool.false_or]at hany
   generalize treeOf b.region.ways vid=tr at htr hbad
   repeat' (first|refine qU ?_|refine qW ?_|((first|apply dX rfl|apply Da rfl rfl|apply Db rfl rfl qN);(focus ((try intro hg);first|exact S_ixM rfl rfl (by omega) hx|exact S_call htr rfl|exact qMo));constructor)|refine qP ?_)
   exact loop_again (k+1) ⟨hlt,hany⟩ (by omega) (Wk_g some rfl rfl kqp)
 rw[List.drop_eq_nil_of_le (by omega),List.any_nil]at hany
 rw[hany,if_neg (by decide)]
 clear hany
 have hcb:=clone_books bs0 (by omega)
 repeat' (first|refine DW_mark 131 (bx := .row 1 false false 1 (bs0.map bookR)) rfl ?_|refine qU ?_|refine qW ?_|(apply dt rfl;case h=>first|exact S_callG0 131 hcb rfl rfl (.own _ _))|((first|apply dX rfl|apply Da rfl rfl|apply Db rfl rfl qN);(focus ((try intro hg);first|exact S_callG0 131 hcb rfl rfl (.own _ _)|exact qMo));constructor)|refine qP ?_)
 intro _
 have hbne:bs0≠[]:=fun e=>by rw[e]at c1;simp at c1;omega
 refine DW_cellsOfN 131 rfl (by decide) (by simpa using hbne) ?_
 rw[bk_flat]
 refine DW_weak (s':=⟨[(3,.dat false (.int .i64 frm)),(4,.dat false (.int .i64 vid)),(6,.ptr 6 0),(7,.ptr 7 0),(11,.ptr 11 0),(15,.ptr 15 0),(16,.dat true (.fn 61 [])),(2,.sl 131 bs0.length)],[(6,.cells false true (n.cells.map (.dat false))),(7,.cells false true [.dat true (.slice (t.map mindsRow))]),(11,.cells false true (f.cells.map (.dat false))),(15,.cells false true [.dat true (.int .i64 0),.dat true (.int .i64 0)]),(131,.cells false true ((bkT false bs0).map bkP))],234⟩) (Wk_g some rfl rfl kqp) ?_
 have hxl:(bkT true bs0).length=(bkT false bs0).length:=by rw[bkT_len,bkT_len]
 repeat' (first|refine qU ?_|((first|apply dX rfl|apply Da rfl rfl|apply Db rfl rfl qN);(focus ((try intro hg);first|exact S_len_sl rfl|exact qM));constructor)|refine qP ?_)
 refine DW_loop (fun i:Nat=>⟨[(3,.dat false (.int .i64 frm)),(4,.dat false (.int .i64 vid)),(6,.ptr 6 0),(7,.ptr 7 0),(11,.ptr 11 0),(15,.ptr 15 0),(16,.dat true (.fn 61 [])),(2,.sl 131 bs0.length),(132,.sl 131 bs0.length),(133,.dat true (.int .i64 bs0.length)),(134,.dat true (.int .i64 i))],[(6,.cells false true (n.cells.map (.dat false))),(7,.cells false true [.dat true (.slice (t.map mindsRow))]),(11,.cells false true (f.cells.map (.dat false))),(15,.cells false true [.dat true (.int .i64 0),.dat true (.int .i64 0)]),(131,.cells false true ((mix (bkT true bs0) (bkT false bs0) i).map bkP))],234⟩)
  (fun i=>i≤bs0.length) (fun i=>bs0.length-i) 0 (Nat.zero_le _) (by rw[mix_zero];exact Wk_g some rfl rfl kqp) (fun i hi=>?_)
 by_cases hli:i<bs0.length
 ·have hy:bs0[i]? = some bs0[i]:=by simp[hli]
  have hce:=hbe _ (List.getElem_mem hli)
  generalize bs0[i]=l at hy hce
  have hcl:=clone_entsF l hce
  have hml:(mix (bkT true bs0) (bkT false bs0) i).length=bs0.length:=by rw[mix_len hxl,bkT_len]
  have hgt:((mix (bkT true bs0) (bkT false bs0) i).map bkP)[(i:Int).toNat*1]? = some (.dat false (.slice (l.map entV))):=by
   rw[Int.toNat_natCast,Nat.mul_one,List.getElem?_map,mix_get hxl,bkT_get hy];rfl
  have hst:(mix (bkT true bs0) (bkT false bs0) i).set ((i:Int).toNat*1) (true,l)=mix (bkT true bs0) (bkT false bs0) (i+1):=by
   rw[Int.toNat_natCast,Nat.mul_one];exact mix_set hxl (bkT_get hy)
  repeat' (first|refine qU ?_|refine qW ?_|((first|apply dX rfl|apply Da rfl rfl|apply Db rfl rfl qN);(focus ((try intro hg);first|exact S_ix_sl rfl rfl (by omega) (by omega)|exact S_load_ptr rfl rfl hgt|exact S_call hcl rfl|exact S_storeA (f:=bkP) (a:=(true,l)) rfl rfl rfl rfl (by rw[hml,Int.toNat_natCast,Nat.mul_one];exact hli)|exact qMo));constructor)|refine qP ?_)
  refine loop_again (i+1) hli (by omega) ?_
  rw[hst]
  exact Wk_g some rfl rfl kqp
 rw[mix_all hxl (by rw[bkT_len];omega)]
 repeat' (first|(apply dt rfl;case h=>exact S_litO (els := [comeV ⟨frm,0,f⟩]) 148 (by subst hff;rfl) rfl rfl rfl rfl)|refine qU ?_|refine qW ?_|((first|apply dX rfl|apply Da rfl rfl|apply Db rfl rfl qN);(focus ((try intro hg);first|exact qMo));constructor)|refine qP ?_)
 refine DW_loop (fun q:Nat×(List Come×List Come×List Come)×List OutF×List (List Ent)=>⟨[(3,.dat false (.int .i64 frm)),(4,.dat false (.int .i64 vid)),(6,.ptr 6 0),(7,.ptr 7 0),(11,.ptr 11 0),(15,.ptr 15 0),(16,.dat true (.fn 61 [])),(2,.sl 131 q.2.2.2.length),(24,.own 900 0 0 q.2.2.1.length),(25,.own 148 0 q.2.1.1.length q.2.1.2.1.length),(26,.dat true (.int .i64 q.1))],
   [(6,.cells false true (n.cells.map (.dat false))),(7,.cells false true [.dat true (.slice (t.map mindsRow))]),(11,.cells false true (f.cells.map (.dat false))),(15,.cells false true [.dat true (.int .i64 0),.dat true (.int .i64 0)]),(131,.cells false true ((bkT true q.2.2.2).map bkP)),(148,.row 0 false false 10 ((q.2.1.1++(q.2.1.2.1++q.2.1.2.2)).map comeV)),(900,.row 0 false true 9 (q.2.2.1.map outV))],234⟩)
  (fun q=>q.1≤41∧(∀ c∈q.2.1.2.1,c.ok n)∧q.2.2.2.length=n.bridges.length∧q.2.1.2.1.length≤1+81*q.1∧q.2.2.1.length≤81*q.1∧goS n t vid 41 [⟨frm,0,f⟩] [] bs0=goS n t vid (41-q.1) q.2.1.2.1 q.2.2.1 q.2.2.2) (fun q=>41-q.1) (0,([],[⟨frm,0,f⟩],[]),[],bs0)
  ⟨Nat.zero_le _,fun c hc=>by rw[List.mem_singleton.1 hc];exact⟨by simp only;omega,by simp only;omega,hf⟩,c1,Nat.le_refl _,Nat.le_refl _,rfl⟩
  (Wk_gen (fun g=>if g=900 then none else some g) rfl rfl kqp kqp) (fun q hR=>?_)
 obtain⟨s,⟨pre,todo,post⟩,seen,bs⟩:=q
 obtain⟨hs,hco,hbn,htd,hsn,hgo⟩:=hR
 simp only at hs hco hbn htd hsn hgo
 dsimp only
 rw[hgo]
 cases todo with
 | nil =>
  rw[show goS n t vid (41-s) [] seen bs=⟨seen,bs,true,(0,0)⟩ by with_unfolding_all (cases 41-s<;>rfl)]
  refine DW_freeze 131 (fun _ _ _ h=>by cases h) ?_
  refine DW_slot 2 (.dat true (.slice (bs.map bookR))) (fun C v hm hd=>bk_out hm rfl hd) ?_
  refine DW_seal 24 rfl rfl (by simp) ?_
  repeat' (first|refine qU ?_|refine qW ?_|((first|apply dX rfl|apply Da rfl rfl|apply Db rfl rfl qN);(focus ((try intro hg);first|exact qMo));constructor)|refine qP ?_)
  refine retN (.tmp rfl qF (.tmp rfl qF (.tmp rfl qF (.cellA inferInstance rfl rfl rfl rfl qF .nil)))) ?_
  rfl
 | cons c r =>
 by_cases hs41:41≤s
 ·obtain rfl:s=41:=by omega
  rw[show goS n t vid (41-41) (c::r) seen bs=sentBad 0 by with_unfolding_all rfl]
  have hlc:(c::r).length=r.length+1:=rfl
  repeat' (first|refine qU ?_|refine qW ?_|((first|apply dX rfl|apply Da rfl rfl|apply Db rfl rfl qN);(focus ((try intro hg);first|exact qMo));constructor)|refine qP ?_)
  refine retN (.tmp rfl qF (.tmp rfl qF (.tmp rfl qF (.cellA inferInstance rfl rfl rfl rfl qF .nil)))) ?_
  rfl
 obtain⟨k,hk⟩:∃ k,41-s=k+1:=⟨40-s,by omega⟩
 rw[hk]at hgo ⊢
 rw[show goS n t vid (k+1) (c::r) seen bs=if(relayC n t vid bs c).2.2≠0 then sentBad (relayC n t vid bs c).2.2 else goS n t vid k (r++comesOf n c.br (relayC n t vid bs c).1) (seen++seenOf c.br (relayC n t vid bs c).1) (bs.set c.br.toNat (relayC n t vid bs c).2.1) by with_unfolding_all rfl]at hgo ⊢
 obtain⟨hc0,hc1,hcf⟩:=hco c (by simp)
 have hcx:((pre++(c::r++post)).map comeV)[pre.length+(0:Int).toNat]? = some (comeV c):=by
  rw[show pre.length+(0:Int).toNat=pre.length from rfl,List.getElem?_map,List.getElem?_append_right (Nat.le_refl _),Nat.sub_self];rfl
 have hlc:(c::r).length=r.length+1:=rfl
 obtain⟨b,hb⟩:∃ b,n.bridges[c.br.toNat]? = some b:=⟨_,List.getElem?_eq_getElem (by omega)⟩
 obtain⟨bk,hbk⟩:∃ bk,bs[c.br.toNat]? = some bk:=⟨_,List.getElem?_eq_getElem (by omega)⟩
 have hbm:=List.mem_of_getElem? hb
 have hrl:=relay_Relay (regAt n c.br) (gatesOf n t c.br vid) (bookAt bs c.br) c.port c.f (by rw[regAt_of hb];exact ht.wy b hbm) hcf
 have hok:=outs_ok (r:=regAt n c.br) (gs:=gatesOf n t c.br vid) (l:=bookAt bs c.br) (port:=c.port) hcf
 have hol:=relayS_len (regAt n c.br) (gatesOf n t c.br vid) (bookAt bs c.br) c.port c.f
 have hgl:=gates_len hg t c.br vid
 have hgt:=lan_gates n hg t htt c.br vid
 rw[show relayC n t vid bs c=relayS (regAt n c.br) (gatesOf n t c.br vid) (bookAt bs c.br) c.port c.f from rfl]at hgo ⊢
 generalize relayS (regAt n c.br) (gatesOf n t c.br vid) (bookAt bs c.br) c.port c.f=res at hrl hok hol hgo ⊢
 rw[regAt_of hb,bookAt_of hbk]at hrl
 generalize gatesOf n t c.br vid=gs at hrl hol hgl hgt
 obtain⟨outs,nbk,err⟩:=res
 simp only at hrl hok hol hgo ⊢
 have hbp:((bkT true bs).map bkP)[c.br.toNat*1]? = some (.dat true (.slice (bk.map entV))):=by rw[Nat.mul_one,List.getElem?_map,bkT_get hbk];rfl
 have hbs:(bkT true bs).set (c.br.toNat*1) (true,nbk)=bkT true (bs.set c.br.toNat nbk):=by rw[Nat.mul_one];exact bkT_set ..
 have hbtl:=bkT_len true bs
 repeat' (first|refine DW_mark 27 (bx := .cells false true ((comeV c).map (.dat false))) rfl ?_|refine qU ?_|refine qW ?_|((first|apply dX rfl|apply Da rfl rfl|apply Db rfl rfl qN);(focus ((try intro hg);first|exact S_ix_own rfl rfl rfl (by omega) (by omega)|exact S_load_rptr rfl rfl hcx rfl|exact qMo));constructor)|refine qP ?_)
 intro _
 refine DW_seq ?_
 refine DW_regionA (l1 := [_]) (l2 := [_]) rfl ?_
 repeat' (first|refine qU ?_|refine qW ?_|((first|apply dX rfl|apply Da rfl rfl|apply Db rfl rfl qN);(focus ((try intro hg);first|exact qMo));constructor)|refine qP ?_)
 refine dnil ⟨_,rfl,S_tail rfl rfl (.some _ _ _ _ 1 rfl) (by omega),fun d wr hF=>?_⟩
 obtain⟨l,hl,rfl,rfl⟩:=hF
 obtain ⟨pre1,post1,hrow,hpl⟩:∃ pre1 post1,pre++(c::r++post)=pre1++(r++post1)∧l=pre1.length:=by
  rcases hl with rfl|⟨rfl,h⟩
  ·exact⟨pre++[c],post,by simp,by simp⟩
  ·obtain rfl:r=[]:=List.length_eq_zero_iff.1 (by omega)
   exact⟨pre,c::post,by simp,rfl⟩
 subst hpl
 dsimp only[St.put]
 rw[hrow,show(c::r).length-1=r.length from rfl]
 clear hrow hl hcx
 by_cases he:err≠0
 ·rw[if_pos he]
  have he':¬err=0:=he
  repeat' (first|refine qU ?_|refine qW ?_|((first|apply dX rfl|apply Da rfl rfl|apply Db rfl rfl qN);(focus ((try intro hg);first|exact S_ixM rfl rfl (by omega) hb|exact S_call hgt rfl|exact S_ix_sl rfl rfl (by omega) (by omega)|exact S_load_ptr rfl rfl hbp|exact S_call hrl rfl|exact S_callv rfl rfl (lan_bad err)|exact qMo));constructor)|refine qP ?_)
  refine retN (.tmp rfl qF (.tmp rfl qF (.tmp rfl qF (.cellA inferInstance rfl rfl rfl rfl qF .nil)))) ?_
  rfl
 rw[if_neg he]at hgo ⊢
 obtain rfl:err=0:=Decidable.not_not.1 he
 clear he
 repeat' (first|refine qU ?_|refine qW ?_|((first|apply dX rfl|apply Da rfl rfl|apply Db rfl rfl qN);(focus ((try intro hg);first|exact S_ixM rfl rfl (by omega) hb|exact S_call hgt rfl|exact S_ix_sl rfl rfl (by omega) (by omega)|exact S_load_ptr rfl rfl hbp|exact S_call hrl rfl|exact S_storeA (f:=bkP) (a:=(true,nbk)) rfl rfl rfl rfl (by omega)|exact qMo));constructor)|refine qP ?_)
 have hmo:(outs.map outV).length=outs.length:=by simp
 have hc00:comesOf n c.br []=[]:=by with_unfolding_all rfl
 have hs00:seenOf c.br []=[]:=by with_unfolding_all rfl
 refine DW_loop (fun q:Nat×(List Come×List Come×List Come)×List OutF=>⟨[(3,.dat false (.int .i64 frm)),(4,.dat false (.int .i64 vid)),(6,.ptr 6 0),(7,.ptr 7 0),(11,.ptr 11 0),(15,.ptr 15 0),(16,.dat true (.fn 61 [])),(2,.sl 131 bs.length),(24,.own 900 0 0 q.2.2.length),(25,.own 148 0 q.2.1.1.length q.2.1.2.1.length),(26,.dat true (.int .i64 s)),(27,.ptr 27 0),(201,.dat true (.slice (outs.map outV))),(202,.dat true (.int .i64 (outs.map outV).length)),(203,.dat true (.int .i64 q.1))],
   [(6,.cells false true (n.cells.map (.dat false))),(7,.cells false true [.dat true (.slice (t.map mindsRow))]),(11,.cells false true (f.cells.map (.dat false))),(15,.cells false true [.dat true (.int .i64 0),.dat true (.int .i64 0)]),(27,.cells false true ((comeV c).map (.dat false))),(131,.cells false true ((bkT true (bs.set c.br.toNat nbk)).map bkP)),(148,.row 0 false false 10 ((q.2.1.1++(q.2.1.2.1++q.2.1.2.2)).map comeV)),(900,.row 0 false true 9 (q.2.2.map outV))],234⟩)
  (fun q=>q.1≤outs.length∧q.2.1.2.1=r++comesOf n c.br (outs.take q.1)∧q.2.2=seen++seenOf c.br (outs.take q.1)) (fun q=>outs.length-q.1) (0,(pre1,r,post1),seen) ⟨Nat.zero_le _,by simp[hc00],by simp[hs00]⟩
  (by rw[hbs];exact Wk_g some rfl rfl kqp) (fun q hR=>?_)
 obtain⟨j,⟨pre2,todo,post2⟩,sn⟩:=q
 obtain⟨hj,htd2,hsn2⟩:=hR
 simp only at hj htd2 hsn2
 dsimp only
 have htl2:todo.length≤81*s+81:=by
  rw[htd2,List.length_append]
  have:=comesOf_len n c.br (outs.take j)
  have:=List.length_take_le j outs
  omega
 have hsl2:sn.length≤81*s+81:=by
  rw[hsn2,List.length_append]
  have:=seenOf_len c.br (outs.take j)
  have:=List.length_take_le j outs
  omega
 by_cases hlj:j<outs.length
 ·have ho0:outs[j]? = some outs[j]:=by simp[hlj]
  have ho:outs[(j:Int).toNat]? = some outs[j]:=by simp[hlj]
  have hct:=comesOf_take (n:=n) (b:=c.br) ho0
  have hst:=seenOf_take (b:=c.br) ho0
  generalize outs[j]=o at ho hct hst
  obtain⟨p,g⟩:=o
  simp only at hct hst
  by_cases hp0:p=0
  ·rw[if_pos hp0,List.append_nil]at hct
   rw[if_pos hp0]at hst
   repeat' (first|refine qU ?_|refine qW ?_|((first|apply dX rfl|apply Da rfl rfl|apply Db rfl rfl qN);(focus ((try intro hg);first|exact S_ixM rfl rfl (by omega) ho|exact S_appM (f:=outV) (us:=sn) (bs := [(c.br,g)]) rfl rfl (.dat _ _) rfl rfl (.inl rfl) rfl (by simp only[List.length_singleton];omega)|exact qMo));constructor)|refine qP ?_)
   exact loop_again (j+1,(pre2,todo,post2),sn++[(c.br,g)]) ⟨hlj,by rw[hct];exact htd2,by rw[hst,hsn2,List.append_assoc]⟩ (by simp only;omega) (Wk_g some rfl rfl kqp)
  ·rw[if_neg hp0]at hct
   rw[if_neg hp0,List.append_nil]at hst
   have hac:=lan_across n hg.nl c.br p g
   cases hq:acrossS n.links c.br p with
   | none =>
    rw[hq]at hct hac
    simp only[List.append_nil]at hct
    change FnG _ _ _ _ (.dat true (.tuple [.agg (comeV .zero),.bool false])) _ at hac
    repeat' (first|refine qU ?_|refine qW ?_|((first|apply dX rfl|apply Da rfl rfl|apply Db rfl rfl qN);(focus ((try intro hg);first|exact S_ixM rfl rfl (by omega) ho|exact S_callK [false,false,true] hac (fun m' hag=>⟨(asBL_mem hag).trans rfl,⟨⟨_,rfl⟩,trivial⟩⟩)|exact qMo));constructor)|refine qP ?_)
    exact loop_again (j+1,(pre2,todo,post2),sn) ⟨hlj,by rw[hct];exact htd2,by rw[hst];exact hsn2⟩ (by simp only;omega) (Wk_g some rfl rfl kqp)
   | some q =>
    rw[hq]at hct hac
    simp only at hct
    change FnG _ _ _ _ (.dat true (.tuple [.agg (comeV ⟨q.1,q.2,g⟩),.bool true])) _ at hac
    repeat' (first|refine DW_markS (d := .dat false (.bool true)) 225 rfl ?_|refine qU ?_|refine qW ?_|((first|apply dX rfl|apply Da rfl rfl|apply Db rfl rfl qN);(focus ((try intro hg);first|exact S_ixM rfl rfl (by omega) ho|exact S_callK [false,false,true] hac (fun m' hag=>⟨(asBL_mem hag).trans rfl,⟨⟨_,rfl⟩,trivial⟩⟩)|exact qMo));constructor)|refine qP ?_)
    intro _
    refine We rfl ?_
    refine DW_regionA (l1 := [_,_,_]) (l2 := [_]) rfl ?_
    repeat' (first|refine qU ?_|refine qW ?_|((first|apply dX rfl|apply Da rfl rfl|apply Db rfl rfl qN);(focus ((try intro hg);first|exact qMo));constructor)|refine qP ?_)
    refine dnil ⟨_,rfl,S_appL (f:=comeV) (us:=pre2++(todo++post2)) (bs := [⟨q.1,q.2,g⟩]) rfl rfl rfl rfl (Nat.ble_eq_true_of_le (by simp only[List.length_append];omega)) (by simp) (.inl rfl) rfl (by simp only[List.length_singleton];omega),fun d wr hF=>?_⟩
    obtain⟨pre3,_,rfl,rfl⟩:=hF
    dsimp only[St.put]
    rw[drop_mid]
    repeat' (first|refine qU ?_|refine qW ?_|((first|apply dX rfl|apply Da rfl rfl|apply Db rfl rfl qN);(focus ((try intro hg);first|exact qMo));constructor)|refine qP ?_)
    exact loop_again (j+1,(pre3,todo++[⟨q.1,q.2,g⟩],[]),sn) ⟨hlj,by rw[hct,htd2,List.append_assoc],by rw[hst];exact hsn2⟩ (by simp only;omega) (by dsimp only;rw[show pre3++((todo++[(⟨q.1,q.2,g⟩:Come)])++[])=pre3++todo++[⟨q.1,q.2,g⟩] by simp,List.length_append];exact Wk_g some rfl rfl kqp)
 ·rw[List.take_of_length_le (by omega)]at htd2 hsn2
  repeat' (first|refine qU ?_|refine qW ?_|((first|apply dX rfl|apply Da rfl rfl|apply Db rfl rfl qN);(focus ((try intro hg);first|exact qMo));constructor)|refine qP ?_)
  refine loop_again (s+1,(pre2,todo,post2),sn,bs.set c.br.toNat nbk) ⟨by simp only;omega,fun x hx=>?_,by rw[List.length_set];exact hbn,by simp only;omega,by simp only;omega,?_⟩ (by simp only;omega) (by dsimp only;rw[List.length_set];exact Wk_g some rfl rfl kqp)
  ·simp only at hx
   rw[htd2]at hx
   rcases List.mem_append.1 hx with hx|hx
   ·exact hco x (by simp[hx])
   ·exact comesOf_ok hg hok x hx
  ·simp only
   rw[htd2,hsn2,show 41-(s+1)=k by omega]
end Go.Proofs.YtcdhlofhhcgohaaGreat
