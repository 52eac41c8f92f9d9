/- Contracts: whether a way's frames pass a gate, of relay and of the document; the way of a frame; a frame as it leaves; slices.BinarySearch. -/
import Derived.Test.YtcdhlofhhcgohaaGreatxbKep
import Derived.Test.YtcdhlofhhcgohaaGreatxdTlr
namespace Go.Proofs.YtcdhlofhhcgohaaGreat
open Go.RowKit
theorem opensOf_take {t:List (List Mind)} {b port:Int} {k:Nat} (h:k<t.length):(opensOf t b port).take (k+1)=(opensOf t b port).take k++[decide (port=0) || opensT t k b port]:=by
 have:(opensOf t b port)[k]? = some (decide (port=0) || opensT t k b port):=by unfold opensOf;simp[h]
 rw[List.take_add_one,this];rfl
theorem gates_take {n:Net} {t:List (List Mind)} {b vid:Int} {k:Nat} {p:Int} (h:(portsOf n.links b)[k]? = some p):((portsOf n.links b).take (k+1)).map (gateOf t b vid)=((portsOf n.links b).take k).map (gateOf t b vid)++[gateOf t b vid p]:=by
 rw[List.take_add_one,h,List.map_append];rfl
theorem ports_pos {n:Net} (h:n.good) {b p:Int} (hp:p∈portsOf n.links b):1≤p∧p≤30:=by
 have hp:=(List.mergeSort_perm _ _).mem_iff.1 (show p∈(n.links.flatMap (portAt b)).mergeSort _ from hp)
 obtain⟨l,hl,hp⟩:=List.mem_flatMap.1 hp
 have hk:=h.lk l hl
 have:=hk.pa
 have:=hk.pb
 unfold portAt at hp
 rcases List.mem_append.1 hp with hp|hp
 ·split at hp
  ·simp only[List.mem_singleton]at hp;omega
  ·cases hp
 ·split at hp
  ·simp only[List.mem_singleton]at hp;omega
  ·cases hp
theorem ports_le {n:Net} (h:n.good) (b:Int):(portsOf n.links b).length≤80:=by
 have:=rawP_len n.links b
 have:=h.nl
 rw[portsOf_eq];unfold sortI;rw[List.length_mergeSort];omega
section
variable {P : Program} {e : Operand → D} {m : Mem} {dst : Option Tmp} {ty : TypeId} {pos : String} {af : Array Edge} {gd : Option (Nat × Bool)} {x : Operand} {t : TypeId}
theorem S_loadP {n:Bool} {cs:List V} {r:V} {sd:TypeDesc} (hu:P.underlying t=some sd) (ha:aggDesc sd=false) (h:e x = .dat n (.rp cs)) (hr:cs[0]? = some r):SStep P ⟨dst,.load t x,ty,pos,af,gd⟩ e m [] (.dat n r) [] :=
 .pure fun C m' ac _ _ hx=>by
  have g1:=hx x (by simp[Op.operands]);rw[h]at g1
  generalize hv:ac.eval x=v at g1
  cases g1 with
  | rp _ b off cell h1 hS hw hrd =>
   have:=hw 0 r hr
   refine⟨cell 0,?_,hrd 0 r hr⟩
   have hag:(isAgg t).run P C.w = .ok false C.w:=by
    simp only[isAgg,Sem.run_bind,run_under hu,Result.andThen_ok]
    rw[←ha]
    cases sd<;>rfl
   have hld:(loadVar t ⟨b,off,none⟩).run P C.w = .ok (cell 0) C.w:=by
    simp only[loadVar,Sem.run_bind,hag,Result.andThen_ok,Bool.false_eq_true,if_false,run_load,show C.w.cell? ⟨b,off,none⟩=some (cell 0) by simpa using this]
   simp only[execOp,hv,Instr.loadAt,Instr.sureAddr,Sem.run_bind,Sem.run_pure,Result.andThen_ok,hld]
end
attribute [local irreducible] SStep DW DWin DOps thenQ inBlk loopQ retQ retQG FnF FnG FnI Wk IntKind.wrap IntKind.andI IntKind.orI IntKind.xorI IntKind.andNotI IntKind.shlI IntKind.shrI opensT opensOf portsOf
theorem clone_books (l:List (List Ent)) (hl:l.length≤1048576):FnG Tryz.prog 64 [.dat false (.slice (l.map bookR))] [] (.own 1000 0 0 l.length) [(1000,.row 0 false false 1 (l.map bookR))]:=by
 refine fnG_of Tryz.func64 rfl rfl rfl ?_
 simp only[envD]
 repeat' (first|refine DW_isnil rfl rfl rfl (fun h0=>?_) ?_|(apply dt rfl;case h=>exact S_litO (els := []) _ rfl rfl rfl rfl rfl)|refine qU ?_|((first|apply dX rfl|apply Da rfl rfl|apply Db rfl rfl qN);(focus ((try intro hg);first|exact S_appM (f:=bookR) (us := []) (bs:=l) rfl rfl (.dat _ _) rfl rfl (.inl rfl) rfl (by simp only[List.length_nil];omega)|exact qM));constructor)|refine qP ?_)
 ·have hl0:l=[]:=List.map_eq_nil_iff.1 h0
  subst hl0
  exact gOwn (Wk_g (fun g=>none) rfl rfl kq)
 ·exact gOwn (Wk_g (fun g=>if g=1000 then some 5 else none) rfl rfl kq)
theorem clone_entsF (l:List Ent) (hl:l.length≤1048576):FnF Tryz.prog 65 [.slice (l.map entV)] (.slice (l.map entV)):=by
 refine fnF_of Tryz.func65 rfl rfl rfl ?_
 simp only[envOf]
 repeat' (first|refine DW_isnil rfl rfl rfl (fun h0=>?_) ?_|(apply dt rfl;case h=>exact S_litO (els := []) _ rfl rfl rfl rfl rfl)|refine DW_seal 2 rfl rfl (by simp) ?_|refine qU ?_|((first|apply dX rfl|apply Da rfl rfl|apply Db rfl rfl qN);(focus ((try intro hg);first|exact S_appM (f:=entV) (us := []) (bs:=l) rfl rfl (.dat _ _) rfl rfl (.inr ⟨rfl,inferInstance⟩) rfl (by simp only[List.length_nil];omega)|exact qM));constructor)|refine qP ?_)
 ·have hl0:l=[]:=List.map_eq_nil_iff.1 h0
  subst hl0
  exact ret1 rfl (.inl rfl) rfl
 ·exact ret1 rfl (.inl rfl) rfl
theorem lan_bad (e:Int):FnF Tryz.prog 61 [.int .i64 e] (sentBad e).v:=by
 refine fnF_of Tryz.func61 rfl rfl rfl ?_
 simp only[envOf]
 repeat' (first|refine qU ?_|((first|apply dX rfl|apply Da rfl rfl|apply Db rfl rfl qN);(focus ((try intro hg);first|exact qM));constructor)|refine qP ?_)
 refine retN (.tmp rfl qF (.tmp rfl qF (.tmp rfl qF (.cellA inferInstance rfl rfl rfl rfl qF .nil)))) ?_
 rfl
set_option maxRecDepth 4000 in
set_option maxHeartbeats 8000000 in
theorem lan_opens (n:Net) (h:n.good) (t:List (List Mind)) (ht:goodT n t) (b port:Int):FnF Tryz.prog 121 [.int .i64 port,.rp [.rp [.slice (t.map mindsRow)]],.rp [.int .i64 b]] (.slice ((opensOf t b port).map boolV1)):=by
 refine fnF_of Tryz.func121 rfl rfl rfl ?_
 simp only[envOf]
 have hmt:(t.map mindsRow).length=t.length:=by simp
 have htl:=ht.l
 have hol:(opensOf t b port).length=t.length:=by with_unfolding_all simp[opensOf]
 repeat' (first|refine qU ?_|refine qW ?_|((first|apply dX rfl|apply Da rfl rfl|apply Db rfl rfl qN);(focus ((try intro hg);first|exact S_loadP Tryz.underlying110 rfl rfl rfl|exact qMo));constructor)|refine qP ?_)
 refine DW_loop (fun q:Nat×List Bool=>⟨[(0,.dat false (.int .i64 port)),(1,.dat false (.rp [.rp [.slice (t.map mindsRow)]])),(2,.dat false (.rp [.int .i64 b])),(5,.own 900 0 0 q.2.length),(11,.dat true (.int .i64 (t.map mindsRow).length)),(12,.dat true (.int .i64 q.1))],[(900,.row 0 false true 1 (q.2.map boolV1))],31⟩)
  (fun q=>q.1≤t.length∧q.2=(opensOf t b port).take q.1) (fun q=>t.length-q.1) (0,[]) ⟨Nat.zero_le _,rfl⟩
  (Wk_g (fun g=>if g=900 then none else some g) rfl rfl kq) (fun q hR=>?_)
 obtain⟨k,us⟩:=q
 obtain⟨hk,hus⟩:=hR
 simp only at hk hus
 dsimp only
 have hul:us.length=k:=by rw[hus,List.length_take];omega
 by_cases hlt:k<t.length
 ·have hst:=opensOf_take (b:=b) (port:=port) hlt
  rw[←hus]at hst
  have hop:=talk_Opens n h t ht k b port
  by_cases h0:port=0
  ·rw[decide_eq_true h0,Bool.true_or]at hst
   repeat' (first|refine qU ?_|refine qW ?_|((first|apply dX rfl|apply Da rfl rfl|apply Db rfl rfl qN);(focus ((try intro hg);first|exact S_loadP Tryz.underlying110 rfl rfl rfl|exact S_call hop rfl|exact S_appM (f:=boolV1) (us:=us) (bs := [true]) rfl rfl (.dat _ _) rfl rfl (.inr ⟨rfl,inferInstance⟩) rfl (by simp only[List.length_singleton];omega)|exact qMo));constructor)|refine qP ?_)
   exact loop_again (k+1,us++[true]) ⟨hlt,hst.symm⟩ (by simp only;omega) (Wk_g some rfl rfl kqp)
  ·rw[decide_eq_false h0,Bool.false_or]at hst
   generalize opensT t k b port=q at hop hst
   repeat' (first|refine qU ?_|refine qW ?_|((first|apply dX rfl|apply Da rfl rfl|apply Db rfl rfl qN);(focus ((try intro hg);first|exact S_loadP Tryz.underlying110 rfl rfl rfl|exact S_call hop rfl|exact S_appM (f:=boolV1) (us:=us) (bs := [q]) rfl rfl (.dat _ _) rfl rfl (.inr ⟨rfl,inferInstance⟩) rfl (by simp only[List.length_singleton];omega)|exact qMo));constructor)|refine qP ?_)
   exact loop_again (k+1,us++[q]) ⟨hlt,hst.symm⟩ (by simp only;omega) (Wk_g some rfl rfl kqp)
 ·have he:us=opensOf t b port:=by rw[hus,List.take_of_length_le (by omega)]
  subst he
  refine DW_seal 5 rfl rfl (by simp) ?_
  repeat' (first|refine qU ?_|refine qW ?_|((first|apply dX rfl|apply Da rfl rfl|apply Db rfl rfl qN);(focus ((try intro hg);first|exact qMo));constructor)|refine qP ?_)
  refine ret1 rfl qF ?_
  rfl
set_option maxHeartbeats 8000000 in
theorem lan_gates (n:Net) (h:n.good) (t:List (List Mind)) (ht:goodT n t) (b vid:Int):FnF Tryz.prog 67 [.rp n.cells,.rp [.slice (t.map mindsRow)],.int .i64 b,.int .i64 vid] (.slice ((gatesOf n t b vid).map gateV)):=by
 refine fnF_of Tryz.func67 rfl rfl rfl ?_
 simp only[envOf]
 have ho:=lan_opens n h t ht b
 have hpo:=plan_Ports n h.nl b
 have hg0:gateOf t b vid 0=⟨0,[vid],vid,opensOf t b 0⟩:=rfl
 have hpl:=ports_le h b
 have hpp:=fun p hp=>ports_pos h (b:=b) (p:=p) hp
 repeat' (first|refine DW_freeze 5 (by intro kt et es h;cases (show Box.cells false _ [D.dat false _]=Box.mapb _ _ _ from h)) ?_|refine DW_freeze 6 (by intro kt et es h;cases (show Box.cells false _ [D.dat false _]=Box.mapb _ _ _ from h)) ?_|(apply dt rfl;case h=>exact S_litO (els := [gateV (gateOf t b vid 0)]) 20 rfl rfl rfl rfl rfl)|refine qU ?_|refine qW ?_|((first|apply dX rfl|apply Da rfl rfl|apply Db rfl rfl qN);(focus ((try intro hg);first|exact S_callv rfl rfl (ho 0)|exact S_call hpo rfl|exact qMo));constructor)|refine qP ?_)
 refine DW_loop (fun q:Nat×List Gate=>⟨[(3,.dat false (.int .i64 vid)),(9,.dat false (.fn 121 [.rp [.rp [.slice (t.map mindsRow)]],.rp [.int .i64 b]])),(10,.own 20 0 0 q.2.length),(23,.dat true (.slice ((portsOf n.links b).map intV1))),(24,.dat true (.int .i64 ((portsOf n.links b).map intV1).length)),(25,.dat true (.int .i64 q.1))],[(20,.row 0 false true 4 (q.2.map gateV))],41⟩)
  (fun q=>q.1≤(portsOf n.links b).length∧q.2=gateOf t b vid 0::((portsOf n.links b).take q.1).map (gateOf t b vid)) (fun q=>(portsOf n.links b).length-q.1) (0,[gateOf t b vid 0]) ⟨Nat.zero_le _,rfl⟩
  (Wk_g some rfl rfl kqp) (fun q hR=>?_)
 obtain⟨k,us⟩:=q
 obtain⟨hk,hus⟩:=hR
 simp only at hk hus
 dsimp only
 have hul:us.length=k+1:=by rw[hus,List.length_cons,List.length_map,List.length_take];omega
 have hml:((portsOf n.links b).map intV1).length=(portsOf n.links b).length:=by simp
 by_cases hlt:k<(portsOf n.links b).length
 ·have hx0:(portsOf n.links b)[k]? = some (portsOf n.links b)[k]:=by simp[hlt]
  have hx:(portsOf n.links b)[(k:Int).toNat]? = some (portsOf n.links b)[k]:=by simp[hlt]
  have hp:=hpp _ (List.getElem_mem hlt)
  have hst:=gates_take (t:=t) (vid:=vid) hx0
  generalize (portsOf n.links b)[k]=p at hx hp hst
  have hst2:us++[gateOf t b vid p]=gateOf t b vid 0::((portsOf n.links b).take (k+1)).map (gateOf t b vid):=by rw[hst,hus];rfl
  have hgp:gateOf t b vid p=⟨p,[vid],0,opensOf t b p⟩:=by unfold gateOf;rw[if_neg (by omega)]
  rw[hgp]at hst2
  have hop:=ho p
  generalize opensOf t b p=os at hop hst2
  repeat' (first|refine qU ?_|refine qW ?_|((first|apply dX rfl|apply Da rfl rfl|apply Db rfl rfl qN);(focus ((try intro hg);first|exact S_ixM rfl rfl (by omega) hx|exact S_callv rfl rfl hop|exact S_appM (f:=gateV) (us:=us) (bs := [⟨p,[vid],0,os⟩]) rfl rfl (.dat _ _) rfl rfl (.inl rfl) rfl (by simp only[List.length_singleton];omega)|exact qMo));constructor)|refine qP ?_)
  exact loop_again (k+1,us++[⟨p,[vid],0,os⟩]) ⟨hlt,hst2⟩ (by simp only;omega) (Wk_g some rfl rfl kqp)
 ·have he:us=gatesOf n t b vid:=by rw[hus,List.take_of_length_le (by omega)];rfl
  subst he
  refine DW_seal 10 rfl rfl (by simp) ?_
  repeat' (first|refine qU ?_|refine qW ?_|((first|apply dX rfl|apply Da rfl rfl|apply Db rfl rfl qN);(focus ((try intro hg);first|exact qMo));constructor)|refine qP ?_)
  refine ret1 rfl qF ?_
  rfl
def acrossV (q:Option (Int×Int)) (f:Frame):V:=match q with|none=>.tuple [.agg (comeV .zero),.bool false]|some q=>.tuple [.agg (comeV ⟨q.1,q.2,f⟩),.bool true]
theorem across_drop {ls:List Link} {k:Nat} {l:Link} {b p:Int} (h:ls[k]? = some l):acrossS (ls.drop k) b p=if l.up=true∧l.a=b∧l.pa=p then some (l.b,l.pb)else if l.up=true∧l.b=b∧l.pb=p then some (l.a,l.pa)else acrossS (ls.drop (k+1)) b p:=by
 obtain⟨hk,rfl⟩:=List.getElem?_eq_some_iff.1 h
 rw[List.drop_eq_getElem_cons hk];rfl
set_option maxHeartbeats 8000000 in
theorem lan_across (n:Net) (hnl:n.links.length≤40) (b p:Int) (f:Frame):FnG Tryz.prog 68 (keptD [false,false,true] [.rp n.cells,.int .i64 b,.agg (outV (p,f))]) [] (.dat true (acrossV (acrossS n.links b p) f)) []:=by
 refine fnG_of Tryz.func68 rfl rfl rfl ?_
 simp only[keptD,envD]
 have hml:(n.links.map linkV).length=n.links.length:=by simp
 repeat' (first|refine qU ?_|refine qW ?_|((first|apply dX rfl|apply Da rfl rfl|apply Db rfl rfl qN);(focus ((try intro hg);first|exact qMo));constructor)|refine qP ?_)
 refine DW_loop (fun k:Nat=>⟨[(1,.dat false (.int .i64 b)),(5,.ptr 5 0),(6,.ptr 6 0),(13,.dat false (.slice (n.links.map linkV))),(14,.dat true (.int .i64 (n.links.map linkV).length)),(15,.dat true (.int .i64 k))],[(5,.cells false true ((outV (p,f)).map (.dat true))),(6,.cells false true ((comeV .zero).map (.dat true)))],60⟩)
  (fun k=>k≤n.links.length∧acrossS n.links b p=acrossS (n.links.drop k) b p) (fun k=>n.links.length-k) 0 ⟨Nat.zero_le _,rfl⟩ (Wk_g some rfl rfl kqp) (fun k hR=>?_)
 obtain⟨hk,hon⟩:=hR
 rw[hon]
 by_cases hlt:k<n.links.length
 ·have hx0:n.links[k]? = some n.links[k]:=by simp[hlt]
  have hx:n.links[(k:Int).toNat]? = some n.links[k]:=by simp[hlt]
  rw[across_drop hx0]
  generalize n.links[k]=l at hx
  obtain⟨a,pa,b',pb,cost,up⟩:=l
  simp only
  cases up with
  | false =>
   simp only[Bool.false_eq_true,false_and,if_false] 
   repeat' (first|refine qU ?_|refine qW ?_|((first|apply dX rfl|apply Da rfl rfl|apply Db rfl rfl qN);(focus ((try intro hg);first|exact S_ixM rfl rfl (by omega) hx|exact qMo));constructor)|refine qP ?_)
   exact loop_again (k+1) ⟨hlt,rfl⟩ (by omega) (Wk_g some rfl rfl kqp)
  | true =>
   simp only[true_and] 
   by_cases h1:a=b∧pa=p
   ·rw[if_pos h1]
    obtain⟨h1a,h1b⟩:=h1
    repeat' (first|refine qU ?_|refine qW ?_|((first|apply dX rfl|apply Da rfl rfl|apply Db rfl rfl qN);(focus ((try intro hg);first|exact S_ixM rfl rfl (by omega) hx|exact qMo));constructor)|refine qP ?_)
    refine gDat (.cellA inferInstance rfl rfl rfl rfl qF (.tmp rfl qF .nil)) Wk_none ?_
    rfl
   ·rw [if_neg h1]
    by_cases h2:b'=b∧pb=p
    ·rw[if_pos h2]
     obtain⟨h2a,h2b⟩:=h2
     by_cases h1a:a=b
     ·have h1b:¬pa=p:=fun e=>h1 ⟨h1a,e⟩
      repeat' (first|refine qU ?_|refine qW ?_|((first|apply dX rfl|apply Da rfl rfl|apply Db rfl rfl qN);(focus ((try intro hg);first|exact S_ixM rfl rfl (by omega) hx|exact qMo));constructor)|refine qP ?_)
      refine gDat (.cellA inferInstance rfl rfl rfl rfl qF (.tmp rfl qF .nil)) Wk_none ?_
      rfl
     ·repeat' (first|refine qU ?_|refine qW ?_|((first|apply dX rfl|apply Da rfl rfl|apply Db rfl rfl qN);(focus ((try intro hg);first|exact S_ixM rfl rfl (by omega) hx|exact qMo));constructor)|refine qP ?_)
      refine gDat (.cellA inferInstance rfl rfl rfl rfl qF (.tmp rfl qF .nil)) Wk_none ?_
      rfl
    ·rw [if_neg h2] 
     by_cases h1a:a=b
     ·have h1b:¬pa=p:=fun e=>h1 ⟨h1a,e⟩
      by_cases h2a:b'=b
      ·have h2b:¬pb=p:=fun e=>h2 ⟨h2a,e⟩
       repeat' (first|refine qU ?_|refine qW ?_|((first|apply dX rfl|apply Da rfl rfl|apply Db rfl rfl qN);(focus ((try intro hg);first|exact S_ixM rfl rfl (by omega) hx|exact qMo));constructor)|refine qP ?_)
       exact loop_again (k+1) ⟨hlt,rfl⟩ (by omega) (Wk_g some rfl rfl kqp)
      ·repeat' (first|refine qU ?_|refine qW ?_|((first|apply dX rfl|apply Da rfl rfl|apply Db rfl rfl qN);(focus ((try intro hg);first|exact S_ixM rfl rfl (by omega) hx|exact qMo));constructor)|refine qP ?_)
       exact loop_again (k+1) ⟨hlt,rfl⟩ (by omega) (Wk_g some rfl rfl kqp)
     ·by_cases h2a:b'=b
      ·have h2b:¬pb=p:=fun e=>h2 ⟨h2a,e⟩
       repeat' (first|refine qU ?_|refine qW ?_|((first|apply dX rfl|apply Da rfl rfl|apply Db rfl rfl qN);(focus ((try intro hg);first|exact S_ixM rfl rfl (by omega) hx|exact qMo));constructor)|refine qP ?_)
       exact loop_again (k+1) ⟨hlt,rfl⟩ (by omega) (Wk_g some rfl rfl kqp)
      ·repeat' (first|refine qU ?_|refine qW ?_|((first|apply dX rfl|apply Da rfl rfl|apply Db rfl rfl qN);(focus ((try intro hg);first|exact S_ixM rfl rfl (by omega) hx|exact qMo));constructor)|refine qP ?_)
       exact loop_again (k+1) ⟨hlt,rfl⟩ (by omega) (Wk_g some rfl rfl kqp)
 ·rw[List.drop_eq_nil_of_le (by omega)]
  repeat' (first|refine qU ?_|refine qW ?_|((first|apply dX rfl|apply Da rfl rfl|apply Db rfl rfl qN);(focus ((try intro hg);first|exact qMo));constructor)|refine qP ?_)
  refine gDat (.cellA inferInstance rfl rfl rfl rfl qF (.tmp rfl qF .nil)) Wk_none ?_
  rfl
end Go.Proofs.YtcdhlofhhcgohaaGreat
namespace Go.Proofs.YtcdhlofhhcgohaaGreat
open Go.RowKit
theorem wrong1_bad {g:Gate} (h:g.bad):g.wrong1=3:=by unfold Gate.wrong1;rw[if_pos h]
theorem wrong1_many {g:Gate} (h:¬g.bad) (k:16<g.opens.length):g.wrong1=5:=by unfold Gate.wrong1;rw[if_neg h,if_pos k]
theorem wrong1_ways {g:Gate} (h:¬g.bad) (k:¬ 16<g.opens.length):g.wrong1=waysG 0 g.ways:=by unfold Gate.wrong1;rw[if_neg h,if_neg k]
attribute [local irreducible] SStep DW DWin DOps thenQ inBlk loopQ retQ retQG FnF FnG Wk IntKind.wrap IntKind.andI IntKind.orI IntKind.xorI IntKind.andNotI IntKind.shlI IntKind.shrI
set_option maxHeartbeats 4000000 in
theorem relay_Wrong (l:List Gate):FnF Tryz.prog 111 [.slice (l.map gateV)] (faultV (wrongG l)):=by
 refine fnF_of Tryz.func111 rfl rfl rfl ?_
 simp only[envOf]
 refine DW_len 0 rfl (fun hlen=>?_)
 have hml:(l.map gateV).length=l.length:=by simp
 unfold wrongG
 repeat' (first|refine qU ?_|((first|apply dX rfl|apply Da rfl rfl|apply Db rfl rfl qN);(focus ((try intro hg);first|exact qM));constructor)|refine qP ?_)
 refine DW_loop (fun k:Nat=>⟨[(0,.dat false (.slice (l.map gateV))),(2,.ptr 2 0),(7,.dat false (.slice (l.map gateV))),(8,.dat true (.int .i64 (l.map gateV).length)),(9,.dat true (.int .i64 k))],[(2,.cells false true [.dat true (.int .i64 0),.dat true (.int .i64 0)])],88⟩)
  (fun k=>k≤l.length∧gatesW none 0 l=gatesW (lastG l k) k (l.drop k)) (fun k=>l.length-k) 0 ⟨Nat.zero_le _,rfl⟩
  (Wk_g some rfl rfl kq) (fun k hR=>?_)
 obtain⟨hk,hw⟩:=hR
 by_cases hlt:k<l.length
 case neg =>
  repeat' (first|refine qU ?_|((first|apply dX rfl|apply Da rfl rfl|apply Db rfl rfl qN);(focus ((try intro hg);first|exact as_bool (S_lss rfl rfl) (decide_eq_false (by omega:¬(k:Int)<((l.map gateV).length:Int)))|exact qM));constructor)|refine qP ?_)
  rw[hw,List.drop_eq_nil_of_le (by omega)]
  refine retN (.cellA inferInstance rfl rfl rfl rfl qF .nil) ?_
  rfl
 have hx:l[(k:Int).toNat]? = some l[k]:=by simp[hlt]
 have hn:l.drop k=l[k]::l.drop (k+1):=List.drop_eq_getElem_cons hlt
 have hlast:lastG l (k+1)=some l[k].port:=by simp[lastG,hlt]
 generalize l[k]=g at hx hn hlast
 rw[hn,gatesW]at hw
 have hmo:(g.opens.map boolV1).length=g.opens.length:=by simp
 have hmw:(g.ways.map intV1).length=g.ways.length:=by simp
 repeat' (first|refine qU ?_|refine DW_cond rfl (fun hb=>?_) (fun hb=>?_)|((first|apply dX rfl|apply Da rfl rfl|apply Db rfl rfl qN);(focus ((try intro hg);first|exact as_bool (S_lss rfl rfl) (decide_eq_true (by omega:(k:Int)<((l.map gateV).length:Int)))|exact S_ixM rfl rfl (by omega) hx|exact qM));constructor)|refine qP ?_)
 ·simp only[Bool.or_eq_true,decide_eq_true_eq]at hb
  have hg:g.bad:=by unfold Gate.bad;omega
  rw[hw,wrong1_bad hg]
  refine retN (.cellA inferInstance rfl rfl rfl rfl qF .nil) ?_
  rfl
 ·rename_i hb1
  simp only[Bool.or_eq_false_iff,decide_eq_true_eq,decide_eq_false_iff_not]at hb hb1
  have hg:¬g.bad:=by unfold Gate.bad;omega
  rw[hw,wrong1_many hg (by omega)]
  refine retN (.cellA inferInstance rfl rfl rfl rfl qF .nil) ?_
  rfl
 rename_i hb1
 simp only[Bool.or_eq_false_iff,decide_eq_false_iff_not]at hb hb1
 have hg:¬g.bad:=by unfold Gate.bad;omega
 rw[wrong1_ways hg (by omega)]at hw
 refine DW_len 41 rfl (fun hlen2=>?_)
 refine DW_loop (fun j:Nat=>⟨[(0,.dat false (.slice (l.map gateV))),(2,.ptr 2 0),(3,.dat true (.int .i64 k)),(4,.ptr 4 0),(7,.dat false (.slice (l.map gateV))),(8,.dat true (.int .i64 (l.map gateV).length)),(9,.dat true (.int .i64 k)),(41,.dat false (.slice (g.ways.map intV1))),(42,.dat true (.int .i64 (g.ways.map intV1).length)),(43,.dat true (.int .i64 j))],
   [(2,.cells false true [.dat true (.int .i64 0),.dat true (.int .i64 0)]),(4,.cells false true [.dat false (.int .i64 g.port),.dat false (.slice (g.ways.map intV1)),.dat false (.int .i64 g.plain),.dat false (.slice (g.opens.map boolV1))])],88⟩)
  (fun j=>j≤g.ways.length∧waysG 0 g.ways=waysG (lastI g.ways j) (g.ways.drop j)) (fun j=>g.ways.length-j) 0 ⟨Nat.zero_le _,rfl⟩
  (Wk_g some rfl rfl kq) (fun j hR=>?_)
 obtain⟨hj,hv⟩:=hR
 by_cases hlj:j<g.ways.length
 ·have hy:g.ways[(j:Int).toNat]? = some g.ways[j]:=by simp[hlj]
  have hm:g.ways.drop j=g.ways[j]::g.ways.drop (j+1):=List.drop_eq_getElem_cons hlj
  have hla:lastI g.ways (j+1)=g.ways[j]:=by simp[lastI,hlj]
  generalize g.ways[j]=v at hy hm hla
  rw[hm,waysG]at hv
  rcases j with - | i
  ·have h00:lastI g.ways 0=0:=rfl
   rw[h00]at hv
   repeat' (first|refine qU ?_|refine DW_cond rfl (fun hc=>?_) (fun hc=>?_)|((first|apply dX rfl|apply Da rfl rfl|apply Db rfl rfl qN);(focus ((try intro hg);first|exact as_bool (S_lss rfl rfl) (decide_eq_true (by omega:((0:Nat):Int)<((g.ways.map intV1).length:Int)))|exact S_ixM rfl rfl (by omega) hy|exact as_bool (b:=false) (S_gtr rfl rfl) rfl|exact qM));constructor)|refine qP ?_)
   ·simp only[Bool.or_eq_true,decide_eq_true_eq]at hc
    rw[if_pos hc]at hv
    rw[hw,hv]
    refine retN (.cellA inferInstance rfl rfl rfl rfl qF .nil) ?_
    rfl
   ·simp only[Bool.or_eq_false_iff,decide_eq_false_iff_not]at hc
    rw[if_neg (by omega),if_neg (by omega)]at hv
    exact loop_again (0+1) ⟨hlj,by rw[hv,hla]⟩ (by omega) (Wk_g some rfl rfl kq)
  ·have hi:i<g.ways.length:=by omega
   have hy2:g.ways[(((i+1:Nat):Int)-1).toNat]? = some g.ways[i]:=by
    rw[show(((i+1:Nat):Int)-1).toNat=i by omega];exact List.getElem?_eq_getElem hi
   have h00:lastI g.ways (i+1)=g.ways[i]:=by simp[lastI,hi]
   generalize g.ways[i]=q at hy2 h00
   rw[h00]at hv
   repeat' (first|refine qU ?_|refine DW_cond rfl (fun hc=>?_) (fun hc=>?_)|((first|apply dX rfl|apply Da rfl rfl|apply Db rfl rfl qN);(focus ((try intro hg);first|exact as_bool (S_lss rfl rfl) (decide_eq_true (by omega:((i+1:Nat):Int)<((g.ways.map intV1).length:Int)))|exact S_ixM rfl rfl (by omega) hy|exact S_ixM rfl rfl (by omega) hy2|exact as_bool (S_gtr rfl rfl) (decide_eq_true (by omega:(0:Int)<((i+1:Nat):Int)))|exact qM));constructor)|refine qP ?_)
   ·simp only[Bool.or_eq_true,decide_eq_true_eq]at hc
    rw[if_pos hc]at hv
    rw[hw,hv]
    refine retN (.cellA inferInstance rfl rfl rfl rfl qF .nil) ?_
    rfl
   ·rename_i hc1
    simp only[Bool.or_eq_false_iff,decide_eq_true_eq,decide_eq_false_iff_not]at hc hc1
    rw[if_neg (by omega),if_pos hc]at hv
    rw[hw,hv]
    refine retN (.cellA inferInstance rfl rfl rfl rfl qF .nil) ?_
    rfl
   ·rename_i hc1
    simp only[Bool.or_eq_false_iff,decide_eq_false_iff_not]at hc hc1
    rw[if_neg (by omega),if_neg hc]at hv
    exact loop_again (i+1+1) ⟨by omega,by rw[hv,hla]⟩ (by omega) (Wk_g some rfl rfl kq)
 rw[List.drop_eq_nil_of_le (by omega)]at hv
 have hv0:waysG 0 g.ways=0:=hv
 rw[hv0,if_neg (by simp)]at hw
 rcases k with - | i
 ·have h00:lastG l 0=none:=rfl
  rw[h00,if_neg (by simp)]at hw
  repeat' (first|refine qU ?_|((first|apply dX rfl|apply Da rfl rfl|apply Db rfl rfl qN);(focus ((try intro hg);first|exact as_bool (S_lss rfl rfl) (decide_eq_false (by omega:¬(j:Int)<((g.ways.map intV1).length:Int)))|exact as_bool (b:=false) (S_gtr rfl rfl) rfl|exact qM));constructor)|refine qP ?_)
  exact loop_again (0+1) ⟨hlt,by rw[hw,hlast]⟩ (by omega) (Wk_g some rfl rfl kq)
 ·have hi:i<l.length:=by omega
  have hx2:l[(((i+1:Nat):Int)-1).toNat]? = some l[i]:=by
   rw[show(((i+1:Nat):Int)-1).toNat=i by omega];exact List.getElem?_eq_getElem hi
  have h00:lastG l (i+1)=some l[i].port:=by simp[lastG,hi]
  generalize l[i]=q at hx2 h00
  rw[h00]at hw
  repeat' (first|refine qU ?_|refine DW_cond rfl (fun hc=>?_) (fun hc=>?_)|((first|apply dX rfl|apply Da rfl rfl|apply Db rfl rfl qN);(focus ((try intro hg);first|exact as_bool (S_lss rfl rfl) (decide_eq_false (by omega:¬(j:Int)<((g.ways.map intV1).length:Int)))|exact S_ixM rfl rfl (by omega) hx2|exact as_bool (S_gtr rfl rfl) (decide_eq_true (by omega:(0:Int)<((i+1:Nat):Int)))|exact qM));constructor)|refine qP ?_)
  ·simp only[decide_eq_true_eq]at hc
   rw[hw,if_pos (by simpa using hc)]
   refine retN (.cellA inferInstance rfl rfl rfl rfl qF .nil) ?_
   rfl
  ·simp only[decide_eq_false_iff_not]at hc
   rw[if_neg (by simpa using hc)]at hw
   exact loop_again (i+1+1) ⟨by omega,by rw[hw,hlast]⟩ (by omega) (Wk_g some rfl rfl kq)
end Go.Proofs.YtcdhlofhhcgohaaGreat
namespace Go.Proofs.YtcdhlofhhcgohaaGreat
open Go.RowKit
attribute [local irreducible] SStep DW DWin DOps thenQ inBlk loopQ retQ retQG FnF FnG Wk IntKind.wrap IntKind.andI IntKind.orI IntKind.xorI IntKind.andNotI IntKind.shlI IntKind.shrI bsG treeOf
theorem nan_int (x:Int):FnF Tryz.prog 178 [.int .i64 x] (.bool false):=by
 refine fnF_of Tryz.func178 rfl rfl rfl ?_
 simp only[envOf]
 repeat' (first|refine qU ?_|((first|apply dX rfl|apply Da rfl rfl|apply Db rfl rfl qN);(focus ((try intro hg);first|exact qM));constructor)|refine qP ?_)
 exact ret1 rfl (.inl rfl) (by simp)
theorem less_int (x y:Int):FnF Tryz.prog 157 [.int .i64 x,.int .i64 y] (.bool (decide (x<y))):=by
 refine fnF_of Tryz.func157 rfl rfl rfl ?_
 simp only[envOf]
 repeat' (first|refine qU ?_|((first|apply dX rfl|apply Da rfl rfl|apply Db rfl rfl qN);(focus ((try intro hg);first|exact S_call (isNaN_int _) rfl|exact qM));constructor)|refine qP ?_)
 exact ret1 rfl (.inl rfl) (by simp)
set_option maxHeartbeats 1000000 in
theorem bs_ints (l:List Int) (v:Int) (hs:l.Pairwise (· < ·)) (hl:l.length≤4194304):FnF Tryz.prog 143 [.slice (l.map intV1),.int .i64 v] (.tuple [.int .i64 (bsW l v),.bool (decide (v∈l))]):=by
 refine fnF_of Tryz.func143 rfl rfl rfl ?_
 simp only[envOf]
 have hml:(l.map intV1).length=l.length:=by simp
 rw[←bsW_spec hs v]
 repeat' (first|refine qU ?_|((first|apply dX rfl|apply Da rfl rfl|apply Db rfl rfl qN);(focus ((try intro hg);first|exact qM));constructor)|refine qP ?_)
 refine DW_loop (fun p:Nat×Nat=>⟨[(0,.dat false (.slice (l.map intV1))),(1,.dat false (.int .i64 v)),(6,.dat true (.int .i64 (l.map intV1).length)),(7,.dat true (.int .i64 p.1)),(8,.dat true (.int .i64 p.2))],[],54⟩)
  (fun p=>p.1≤p.2∧p.2≤l.length∧∃ f,p.2-p.1≤f∧bsG (fun x=>x-v) 0 l f p.1 p.2=bsW l v) (fun p=>p.2-p.1) (0,(l.map intV1).length) ⟨Nat.zero_le _,by simp,l.length,by simp,by rw[hml];rfl⟩
  (Wk_g some rfl rfl kq) (fun p hR=>?_)
 obtain⟨i,j⟩:=p
 obtain⟨h1,h2,f,hf,hgo⟩:=hR
 simp only at h1 h2 hf hgo
 dsimp only
 by_cases hlt:i<j
 ·obtain⟨f,rfl⟩:∃ g,f=g+1:=⟨f-1,by omega⟩
  have hh:(i+j) / 2<l.length:=by omega
  have hx:l[(((i+j) / 2:Nat):Int).toNat]? = some l[(i+j) / 2]:=by rw[Int.toNat_natCast];exact List.getElem?_eq_getElem hh
  have hg:l.getD ((i+j) / 2) 0=l[(i+j) / 2]:=by rw[List.getD_eq_getElem?_getD,List.getElem?_eq_getElem hh];rfl
  have hs:IntKind.u64.shrI ((i:Int)+(j:Int)) 1=(((i+j) / 2:Nat):Int):=by rw[←shr1b (i+j) (by omega)];rfl
  have hgo':(if(l[(i+j) / 2])-v<0 then bsG (fun x=>x-v) 0 l f ((i+j) / 2+1) j else bsG (fun x=>x-v) 0 l f i ((i+j) / 2))=bsW l v:=by
   rw[←hgo,←hg]
   with_unfolding_all (rw[bsG,if_pos hlt])
  generalize l[(i+j) / 2]=w at hx hgo'
  have hhb:(i+j) / 2<j∧i≤(i+j) / 2:=by omega
  generalize (i+j) / 2=h at hx hs hgo' hhb hh
  have hle:=less_int w v
  by_cases hc:w<v
  ·rw[if_pos (by omega)]at hgo'
   rw[decide_eq_true hc]at hle
   repeat' (first|refine qU ?_|((first|apply dX rfl|apply Da rfl rfl|apply Db rfl rfl qN);(focus ((try intro hg);first|exact as_bool (S_lss rfl rfl) (decide_eq_true (by omega:(i:Int)<(j:Int)))|exact as_int (S_shr rfl rfl (by decide)) hs|exact S_ixM rfl rfl (by omega) hx|exact S_call hle rfl|exact qM));constructor)|refine qP ?_)
   exact loop_again (h+1,j) ⟨by simp only;omega,h2,f,by simp only;omega,hgo'⟩ (by simp only;omega) (Wk_g some rfl rfl kq)
  ·rw[if_neg (by omega)]at hgo'
   rw[decide_eq_false hc]at hle
   repeat' (first|refine qU ?_|((first|apply dX rfl|apply Da rfl rfl|apply Db rfl rfl qN);(focus ((try intro hg);first|exact as_bool (S_lss rfl rfl) (decide_eq_true (by omega:(i:Int)<(j:Int)))|exact as_int (S_shr rfl rfl (by decide)) hs|exact S_ixM rfl rfl (by omega) hx|exact S_call hle rfl|exact qM));constructor)|refine qP ?_)
   exact loop_again (i,h) ⟨by simp only;omega,by simp only;omega,f,by simp only;omega,hgo'⟩ (by simp only;omega) (Wk_g some rfl rfl kq)
 ·rw[bsG_end hlt]at hgo
  rw[←hgo]
  by_cases hin:i<l.length
  ·have hx:l[(i:Int).toNat]? = some l[i]:=by simp[hin]
   have hg:l.getD i 0=l[i]:=by rw[List.getD_eq_getElem?_getD,List.getElem?_eq_getElem hin];rfl
   rw[hg,decide_eq_true hin,Bool.true_and]
   generalize l[i]=w at hx
   repeat' (first|refine qU ?_|((first|apply dX rfl|apply Da rfl rfl|apply Db rfl rfl qN);(focus ((try intro hg);first|exact as_bool (S_lss rfl rfl) (decide_eq_false (by omega:¬(i:Int)<(j:Int)))|exact as_bool (S_lss rfl rfl) (decide_eq_true (by omega:(i:Int)<((l.map intV1).length:Int)))|exact S_ixM rfl rfl (by omega) hx|exact S_call (nan_int _) rfl|exact qM));constructor)|refine qP ?_)
   refine retN (.tmp rfl (.inr (.int _ _)) (.tmp rfl (.inl rfl) .nil)) ?_
   simp[pack]
  ·rw[decide_eq_false hin,Bool.false_and]
   repeat' (first|refine qU ?_|((first|apply dX rfl|apply Da rfl rfl|apply Db rfl rfl qN);(focus ((try intro hg);first|exact as_bool (S_lss rfl rfl) (decide_eq_false (by omega:¬(i:Int)<(j:Int)))|exact as_bool (S_lss rfl rfl) (decide_eq_false (by omega:¬(i:Int)<((l.map intV1).length:Int)))|exact qM));constructor)|refine qP ?_)
   exact retN (.tmp rfl (.inr (.int _ _)) (.tmp rfl (.inl rfl) .nil)) rfl
set_option maxHeartbeats 1000000 in
theorem relay_passes (g:Gate) (r:Region) (v:Int) (hg:g.right) (hr:r.right) (hv : -9223372036854775808≤v∧v≤9223372036854775807) :
  FnF Tryz.prog 116 [.rp (gateV g),.rp r.cells,.int .i64 v] (.bool (g.passes r v)):=by
 refine fnF_of Tryz.func116 rfl rfl rfl ?_
 simp only[envOf]
 have c1:=region_Tree r v hr hv
 have c2:=bs_ints g.ways v hg.s (by have:=hg.n;omega)
 have ht:=treeOf_in hr.w v
 have hmo:(g.opens.map boolV1).length=g.opens.length:=by simp
 unfold Gate.passes
 generalize treeOf r.ways v=t at c1 ht
 by_cases hm:v∈g.ways
 ·rw[decide_eq_true hm]at c2
  rw[decide_eq_true hm,Bool.true_and]
  by_cases hlt:t<g.opens.length
  ·have hx:g.opens[t.toNat]? = some (g.opens[t.toNat]'(by omega)):=List.getElem?_eq_getElem _
   rw[hx]
   generalize g.opens[t.toNat]'(by omega)=b at hx
   repeat' (first|refine qU ?_|((first|apply dX rfl|apply Da rfl rfl|apply Db rfl rfl qN);(focus ((try intro hg);first|exact S_call c1 rfl|exact S_call c2 rfl|exact as_bool (S_lss rfl rfl) (decide_eq_true (by omega:t<((g.opens.map boolV1).length:Int)))|exact S_ixM rfl rfl (by omega) hx|exact qM));constructor)|refine qP ?_)
   exact ret1 rfl (.inr (.bool _)) rfl
  ·rw[List.getElem?_eq_none (by omega)]
   repeat' (first|refine qU ?_|((first|apply dX rfl|apply Da rfl rfl|apply Db rfl rfl qN);(focus ((try intro hg);first|exact S_call c1 rfl|exact S_call c2 rfl|exact as_bool (S_lss rfl rfl) (decide_eq_false (by omega:¬t<((g.opens.map boolV1).length:Int)))|exact qM));constructor)|refine qP ?_)
   exact ret1 rfl (.inl rfl) rfl
 ·rw[decide_eq_false hm]at c2
  rw[decide_eq_false hm,Bool.false_and]
  repeat' (first|refine qU ?_|((first|apply dX rfl|apply Da rfl rfl|apply Db rfl rfl qN);(focus ((try intro hg);first|exact S_call c1 rfl|exact S_call c2 rfl|exact qM));constructor)|refine qP ?_)
  exact ret1 rfl (.inl rfl) rfl
theorem relay_way (g:Gate) (f:Frame):FnF Tryz.prog 115 [.rp (gateV g),.rp f.cells] (.int .i64 (wayOf g f)):=by
 refine fnF_of Tryz.func115 rfl rfl rfl ?_
 simp only[envOf]
 repeat' (first|refine qU ?_|refine DW_cond rfl (fun hb=>?_) (fun hb=>?_)|((first|apply dX rfl|apply Da rfl rfl|apply Db rfl rfl qN);(focus ((try intro hg);first|exact qM));constructor)|refine qP ?_)
 ·refine ret1 rfl (.inr (.int _ _)) ?_
  simp only[Bool.and_eq_true,decide_eq_true_eq]at hb
  unfold wayOf;rw[if_pos hb]
 ·refine ret1 rfl (.inr (.int _ _)) ?_
  unfold wayOf;rw[if_neg (fun h=>by rw[h.1,decide_eq_true h.2]at hb;cases hb)]
theorem relay_reserved (a:Int):FnF Tryz.prog 117 [.int .u64 a] (.bool (reservedB a)):=by
 refine fnF_of Tryz.func117 rfl rfl rfl ?_
 simp only[envOf]
 repeat' (first|refine qU ?_|((first|apply dX rfl|apply Da rfl rfl|apply Db rfl rfl qN);(focus ((try intro hg);first|exact qM));constructor)|refine qP ?_)
 exact ret1 rfl (.inl rfl) rfl
theorem relay_leave (g:Gate) (f:Frame) (v:Int) (hf:f.data.length≤1099511627776):FnF Tryz.prog 120 [.rp (gateV g),f.v,.int .i64 v] (leaveF g f v).v:=by
 refine fnF_of Tryz.func120 rfl rfl rfl ?_
 simp only[envOf]
 have hc:=clone_bytes f.data hf
 have hw:=whole_eq (f:=byteV) (us:=f.data) rfl
 unfold leaveF
 by_cases h1:g.plain=v
 ·rw[if_pos h1]
  repeat' (first|refine DW_freeze 27 (by intro kt et es h;cases (show Box.row _ false _ _ _=Box.mapb _ _ _ from h)) ?_|refine qU ?_|(apply dt rfl;case h=>first|exact S_callG0 _ hc rfl rfl (.own _ _))|((first|apply dX rfl|apply Da rfl rfl|apply Db rfl rfl qN);(focus ((try intro hg);first|exact as_bool (S_eql rfl rfl) (decide_eq_true h1)|exact S_callG0 _ hc rfl rfl (.own _ _)|exact qM));constructor)|refine qP ?_)
  refine retN (.cellA inferInstance rfl rfl rfl rfl (.inl rfl) .nil) ?_
  simp only[pack,Frame.v,Frame.cells,hw]
 ·rw[if_neg h1]
  obtain⟨dst,src,tagged,prio,drop,vid,typ,data⟩:=f
  cases tagged
  ·repeat' (first|refine DW_freeze 27 (by intro kt et es h;cases (show Box.row _ false _ _ _=Box.mapb _ _ _ from h)) ?_|refine qU ?_|(apply dt rfl;case h=>first|exact S_callG0 _ hc rfl rfl (.own _ _))|((first|apply dX rfl|apply Da rfl rfl|apply Db rfl rfl qN);(focus ((try intro hg);first|exact as_bool (S_eql rfl rfl) (decide_eq_false h1)|exact S_callG0 _ hc rfl rfl (.own _ _)|exact qM));constructor)|refine qP ?_)
   refine retN (.cellA inferInstance rfl rfl rfl rfl (.inl rfl) .nil) ?_
   simp only[pack,Frame.v,Frame.cells,show List.take data.length (List.drop 0 (List.map byteV data))=List.map byteV data from hw]
   first|done|rfl|simp
  ·repeat' (first|refine DW_freeze 27 (by intro kt et es h;cases (show Box.row _ false _ _ _=Box.mapb _ _ _ from h)) ?_|refine qU ?_|(apply dt rfl;case h=>first|exact S_callG0 _ hc rfl rfl (.own _ _))|((first|apply dX rfl|apply Da rfl rfl|apply Db rfl rfl qN);(focus ((try intro hg);first|exact as_bool (S_eql rfl rfl) (decide_eq_false h1)|exact S_callG0 _ hc rfl rfl (.own _ _)|exact qM));constructor)|refine qP ?_)
   refine retN (.cellA inferInstance rfl rfl rfl rfl (.inl rfl) .nil) ?_
   simp only[pack,Frame.v,Frame.cells,show List.take data.length (List.drop 0 (List.map byteV data))=List.map byteV data from hw]
   first|done|rfl|simp
end Go.Proofs.YtcdhlofhhcgohaaGreat
