/- Where a frame comes that leaves by a port: the document goes over all links; it is one at most. -/
import Derived.Test.YtcdhlofhhcgohaaGreatwcPlV
import Derived.Test.YtcdhlofhhcgohaaGreatwcSh
namespace Go.Proofs.YtcdhlofhhcgohaaGreat
open Go.RowKit
attribute [local irreducible] SStep DW DWin DOps zaG zaE zaJ retQ zaN FnF FnG FnI Wk IntKind.wrap IntKind.andI IntKind.orI IntKind.xorI IntKind.andNotI IntKind.shlI IntKind.shrI Region.wrong Bridge.wrong Link.wrong
theorem zk8 (p:Int):(decide (p<0) || decide (61440<p) || decide (IntKind.i64.wrap (IntKind.i64.wrap (p.tdiv 4096)*4096)≠p))=decide (zbh p):=by
 by_cases h:p<0∨61440<p
 ·rw[decide_eq_true (show zbh p from by unfold zbh;omega)]
  rcases h with h|h
  ·rw[decide_eq_true h];rfl
  ·rw[decide_eq_true h,Bool.or_true];rfl
 ·have h3:p.tdiv 4096=p / 4096:=Int.tdiv_eq_ediv_of_nonneg (by omega)
  have h4:p.tmod 4096=p % 4096:=Int.tmod_eq_emod_of_nonneg (by omega)
  have e:IntKind.i64.wrap (IntKind.i64.wrap (p / 4096)*4096)=p / 4096*4096:=by
   rw[wrap64 (p / 4096),wrap64];omega
  rw[h3,e,decide_eq_false (show ¬p<0 by omega),decide_eq_false (show ¬ 61440<p by omega),Bool.false_or,Bool.false_or]
  refine decide_eq_decide.2 ?_
  unfold zbh
  rw[h4]
  omega
def chkP (f:Int×Nat) (W:List (Int×Int)→Option (Int×Nat)):List (Int×Int)→List (Int×Int)→Option (Int×Nat)
 | had,[]=>W had
 | had,p::r=>if p∈had then some f else chkP f W (had++[p]) r
theorem zk9 (k:Nat) (had:List (Int×Int)) (i:Nat) (l:Link) (r:List Link):za0 k had i (l::r)=if l.wrong k≠0 then some (l.wrong k,i)else chkP (7,i) (fun h=>za0 k h (i+1) r) had [(l.a,l.pa),(l.b,l.pb)]:=by
 rw[za0];rfl
theorem zrQ (e i:Int):FnF Tryz.prog 90 [.int .i64 e,.rp [.int .i64 i]] (.agg [.int .i64 e,.int .i64 i]):=by
 refine zal Tryz.func90 rfl rfl rfl ?_
 simp only[zap]
 repeat' (first|refine qU ?_|((first|apply dX rfl|apply Da rfl rfl|apply Db rfl rfl qN);(focus ((try intro hg);first|exact qM));constructor)|refine qP ?_)
 refine retN (.cellA inferInstance rfl rfl rfl rfl qF .nil) ?_
 rfl
theorem zqc (e i:Int):FnF Tryz.prog 92 [.int .i64 e,.rp [.int .i64 i]] (.agg [.int .i64 e,.int .i64 i]):=by
 refine zal Tryz.func92 rfl rfl rfl ?_
 simp only[zap]
 repeat' (first|refine qU ?_|((first|apply dX rfl|apply Da rfl rfl|apply Db rfl rfl qN);(focus ((try intro hg);first|exact qM));constructor)|refine qP ?_)
 refine retN (.cellA inferInstance rfl rfl rfl rfl qF .nil) ?_
 rfl
set_option maxHeartbeats 8000000 in
theorem zb4 (n:Net) (hw:∀ b∈n.bridges,b.region.ways.length≤9223372036854775807):FnF Tryz.prog 47 [n.v] (zb1 n.wrong):=by
 refine zal Tryz.func47 rfl rfl rfl ?_
 simp only[zap]
 have hmb:(n.bridges.map zaj).length=n.bridges.length:=by simp
 have hml:(n.links.map zar).length=n.links.length:=by simp
 repeat' (first|refine qU ?_|refine zat rfl (fun hb=>?_) (fun hb=>?_)|((first|apply dX rfl|apply Da rfl rfl|apply Db rfl rfl qN);(focus ((try intro hg);first|exact qM));constructor)|refine qP ?_)
 ·refine retN (.cellA inferInstance rfl rfl rfl rfl qF .nil) ?_
  simp only[Bool.or_eq_true,decide_eq_true_eq]at hb
  unfold Net.wrong
  rw[if_pos (by omega)]
  rfl
 simp only[Bool.or_eq_false_iff,decide_eq_false_iff_not]at hb
 have h0:¬(12<n.bridges.length∨40<n.links.length):=by omega
 refine zaD 1 (fun _ _ _ h=>by cases h) ?_
 refine zag (fun k:Nat=>⟨[(1,.ptr 1 0),(2,.ptr 2 0),(32,.dat false (.slice (n.bridges.map zaj))),(33,.dat true (.int .i64 (n.bridges.map zaj).length)),(34,.dat true (.int .i64 k))],[(1,.cells true true (n.cells.map (.dat false))),(2,.cells false true [.dat true (.int .i64 0),.dat true (.int .i64 0)])],206⟩)
  (fun k=>k≤n.bridges.length∧zbk [] 0 n.bridges=zbk (n.bridges.take k) k (n.bridges.drop k)) (fun k=>n.bridges.length-k) 0 ⟨Nat.zero_le _,rfl⟩ (Wk_g some rfl rfl kq) (fun k hR=>?_)
 obtain⟨hk,hbr⟩:=hR
 by_cases hlt:k<n.bridges.length
 ·have hx:n.bridges[(k:Int).toNat]? = some n.bridges[k]:=by simp[hlt]
  have hx':n.bridges[k]? = some n.bridges[k]:=by simp[hlt]
  have hn:n.bridges.drop k=n.bridges[k]::n.bridges.drop (k+1):=List.drop_eq_getElem_cons hlt
  have hwb:=hw n.bridges[k] (List.getElem_mem hlt)
  generalize n.bridges[k]=b at hx hx' hn hwb
  have ht:n.bridges.take (k+1)=n.bridges.take k++[b]:=by rw[List.take_add_one,hx'];rfl
  rw[hn,zbk]at hbr
  have hmp:(b.prios.map zad).length=b.prios.length:=by simp
  have hrw:=zh7 b.region hwb
  have hbw:b.wrong=if 281474976710655<b.addr then 3 else if 16<b.prios.length then 5 else if b.prios.any (fun p=>decide (zbh p))then 3 else b.region.wrong:=by with_unfolding_all rfl
  have hc:=fun e=>zrQ e k
  have hnw:∀ f,zbk [] 0 n.bridges=some f→n.wrong=f:=fun f hf=>by unfold Net.wrong;rw[if_neg h0,hf]
  by_cases h1:281474976710655<b.addr
  ·rw[if_pos h1]at hbw
   rw[if_pos (by rw[hbw];decide),hbw]at hbr
   repeat' (first|refine qU ?_|refine qW ?_|((first|apply dX rfl|apply Da rfl rfl|apply Db rfl rfl qN);(focus ((try intro hg);first|exact zaf rfl rfl (by omega) hx|exact zcI 3 rfl rfl (zbv rfl)|exact zaq rfl rfl (hc 3)|exact qMo));constructor)|refine qP ?_)
   refine retN (.cellA inferInstance rfl rfl rfl rfl qF .nil) ?_
   rw[hnw _ hbr]
   rfl
  rw[if_neg h1]at hbw
  by_cases h2:16<b.prios.length
  ·rw[if_pos h2]at hbw
   rw[if_pos (by rw[hbw];decide),hbw]at hbr
   repeat' (first|refine qU ?_|refine qW ?_|((first|apply dX rfl|apply Da rfl rfl|apply Db rfl rfl qN);(focus ((try intro hg);first|exact zaf rfl rfl (by omega) hx|exact zcI 3 rfl rfl (zbv rfl)|exact zaq rfl rfl (hc 5)|exact qMo));constructor)|refine qP ?_)
   refine retN (.cellA inferInstance rfl rfl rfl rfl qF .nil) ?_
   rw[hnw _ hbr]
   rfl
  rw[if_neg h2]at hbw
  repeat' (first|refine qU ?_|refine qW ?_|((first|apply dX rfl|apply Da rfl rfl|apply Db rfl rfl qN);(focus ((try intro hg);first|exact zaf rfl rfl (by omega) hx|exact zcI 3 rfl rfl (zbv rfl)|exact qMo));constructor)|refine qP ?_)
  refine zag (fun j:Nat=>⟨[(1,.ptr 1 0),(2,.ptr 2 0),(3,.ptr 3 0),(4,.ptr 4 0),(5,.dat true (.fn 90 [.rp [.int .i64 k]])),(32,.dat false (.slice (n.bridges.map zaj))),(33,.dat true (.int .i64 (n.bridges.map zaj).length)),(34,.dat true (.int .i64 k)),
    (52,.dat false (.slice (b.prios.map zad))),(53,.dat true (.int .i64 (b.prios.map zad).length)),(54,.dat true (.int .i64 j))],
    [(1,.cells true true (n.cells.map (.dat false))),(2,.cells false true [.dat true (.int .i64 0),.dat true (.int .i64 0)]),(3,.cells true true [.dat true (.int .i64 k)]),(4,.cells false true ((zaj b).map (.dat false)))],206⟩)
   (fun j=>j≤b.prios.length∧b.prios.any (fun p=>decide (zbh p))=(b.prios.drop j).any (fun p=>decide (zbh p))) (fun j=>b.prios.length-j) 0 ⟨Nat.zero_le _,rfl⟩ (Wk_g some rfl rfl kq) (fun j hR=>?_)
  obtain⟨hj,hany⟩:=hR
  by_cases hltj:j<b.prios.length
  ·have hxj:b.prios[(j:Int).toNat]? = some b.prios[j]:=by simp[hltj]
   have hnj:b.prios.drop j=b.prios[j]::b.prios.drop (j+1):=List.drop_eq_getElem_cons hltj
   generalize b.prios[j]=p at hxj hnj
   rw[hnj,List.any_cons]at hany
   repeat' (first|refine qU ?_|refine qW ?_|((first|apply dX rfl|apply Da rfl rfl|apply Db rfl rfl qN);(focus ((try intro hg);first|exact zaf rfl rfl (by omega) hxj|exact qMo));constructor)|refine qP ?_)
   refine zat rfl (fun hb=>?_) (fun hb=>?_)
   ·rw[zk8]at hb
    rw[hb,Bool.true_or]at hany
    rw[if_pos hany]at hbw
    rw[if_pos (by rw[hbw];decide),hbw]at hbr
    repeat' (first|refine qU ?_|refine qW ?_|((first|apply dX rfl|apply Da rfl rfl|apply Db rfl rfl qN);(focus ((try intro hg);first|exact zaq rfl rfl (hc 3)|exact qMo));constructor)|refine qP ?_)
    refine retN (.cellA inferInstance rfl rfl rfl rfl qF .nil) ?_
    rw[hnw _ hbr]
    rfl
   ·rw[zk8]at hb
    rw[hb,Bool.false_or]at hany
    repeat' (first|refine qU ?_|refine qW ?_|((first|apply dX rfl|apply Da rfl rfl|apply Db rfl rfl qN);(focus ((try intro hg);first|exact qMo));constructor)|refine qP ?_)
    exact zaa (j+1) ⟨hltj,hany⟩ (by omega) (Wk_g some rfl rfl kq)
  ·rw [List.drop_eq_nil_of_le (by omega)]at hany
   rw[if_neg (by rw[hany];simp)]at hbw
   by_cases h3:b.region.wrong=0
   ·rw [h3]at hbw
    rw[if_neg (by rw[hbw];simp)]at hbr
    have htl:(n.bridges.take k).length=k:=by rw[List.length_take];omega
    have hmt:((n.bridges.take k).map zaj).length=k:=by rw[List.length_map,htl]
    rw[h3]at hrw
    repeat' (first|refine qU ?_|refine qW ?_|((first|apply dX rfl|apply Da rfl rfl|apply Db rfl rfl qN);(focus ((try intro hg);first|exact zac hrw rfl|exact zoE (n.bridges.take k) rfl (.none _) (.some _ _ _ _ k rfl) (by omega) (by omega) (by simp)|exact qMo));constructor)|refine qP ?_)
    refine zag (fun j:Nat=>⟨[(1,.ptr 1 0),(2,.ptr 2 0),(3,.ptr 3 0),(4,.ptr 4 0),(5,.dat true (.fn 90 [.rp [.int .i64 k]])),(32,.dat false (.slice (n.bridges.map zaj))),(33,.dat true (.int .i64 (n.bridges.map zaj).length)),(34,.dat true (.int .i64 k)),
      (85,.dat false (.slice ((n.bridges.take k).map zaj))),(86,.dat true (.int .i64 ((n.bridges.take k).map zaj).length)),(87,.dat true (.int .i64 j))],
      [(1,.cells true true (n.cells.map (.dat false))),(2,.cells false true [.dat true (.int .i64 0),.dat true (.int .i64 0)]),(3,.cells true true [.dat true (.int .i64 k)]),(4,.cells false true ((zaj b).map (.dat false)))],206⟩)
     (fun j=>j≤k∧(n.bridges.take k).any (fun o=>decide (o.addr=b.addr))=((n.bridges.take k).drop j).any (fun o=>decide (o.addr=b.addr))) (fun j=>k-j) 0 ⟨Nat.zero_le _,rfl⟩ (Wk_g some rfl rfl kq) (fun j hR=>?_)
    obtain⟨hj,han⟩:=hR
    by_cases hltj:j<k
    ·have hltj':j<(n.bridges.take k).length:=by omega
     have hxj:(n.bridges.take k)[(j:Int).toNat]? = some (n.bridges.take k)[j]:=by rw[Int.toNat_natCast];exact List.getElem?_eq_getElem hltj'
     have hnj:(n.bridges.take k).drop j=(n.bridges.take k)[j]::(n.bridges.take k).drop (j+1):=List.drop_eq_getElem_cons hltj'
     generalize (n.bridges.take k)[j]=o at hxj hnj
     rw[hnj,List.any_cons]at han
     by_cases h4:o.addr=b.addr
     ·rw[decide_eq_true h4,Bool.true_or]at han
      rw[if_pos han]at hbr
      repeat' (first|refine qU ?_|refine qW ?_|((first|apply dX rfl|apply Da rfl rfl|apply Db rfl rfl qN);(focus ((try intro hg);first|exact zaf rfl rfl (by omega) hxj|exact zaq rfl rfl (hc 7)|exact qMo));constructor)|refine qP ?_)
      refine retN (.cellA inferInstance rfl rfl rfl rfl qF .nil) ?_
      rw[hnw _ hbr]
      rfl
     ·rw[decide_eq_false h4,Bool.false_or]at han
      repeat' (first|refine qU ?_|refine qW ?_|((first|apply dX rfl|apply Da rfl rfl|apply Db rfl rfl qN);(focus ((try intro hg);first|exact zaf rfl rfl (by omega) hxj|exact qMo));constructor)|refine qP ?_)
      exact zaa (j+1) ⟨hltj,han⟩ (by omega) (Wk_g some rfl rfl kq)
    ·rw[List.drop_eq_nil_of_le (by omega)]at han
     rw[if_neg (by rw[han];simp)]at hbr
     repeat' (first|refine qU ?_|refine qW ?_|((first|apply dX rfl|apply Da rfl rfl|apply Db rfl rfl qN);(focus ((try intro hg);first|exact qMo));constructor)|refine qP ?_)
     exact zaa (k+1) ⟨hlt,by rw[hbr,ht]⟩ (by omega) (Wk_g some rfl rfl kq)
   ·rw[if_pos (by rw[hbw];exact h3),hbw]at hbr
    repeat' (first|refine qU ?_|refine qW ?_|((first|apply dX rfl|apply Da rfl rfl|apply Db rfl rfl qN);(focus ((try intro hg);first|exact zac hrw rfl|exact zaq rfl rfl (hc b.region.wrong)|exact qMo));constructor)|refine qP ?_)
    refine retN (.cellA inferInstance rfl rfl rfl rfl qF .nil) ?_
    rw[hnw _ hbr]
    rfl
 ·rw [List.drop_eq_nil_of_le (by omega),zbk]at hbr
  have hnw:n.wrong=(za0 n.bridges.length [] 0 n.links).getD (0,0):=by unfold Net.wrong;rw[if_neg h0,hbr]
  repeat' (first|refine qU ?_|refine qW ?_|((first|apply dX rfl|apply Da rfl rfl|apply Db rfl rfl qN);(focus ((try intro hg);first|exact qMo));constructor)|refine qP ?_)
  refine zag (fun q:Nat×List (Int×Int)=>⟨[(1,.ptr 1 0),(2,.ptr 2 0),(11,.own 11 0 0 q.2.length),(101,.dat false (.slice (n.links.map zar))),(102,.dat true (.int .i64 (n.links.map zar).length)),(103,.dat true (.int .i64 q.1))],
    [(1,.cells true true (n.cells.map (.dat false))),(2,.cells false true [.dat true (.int .i64 0),.dat true (.int .i64 0)]),(11,.row 0 false true 2 (q.2.map zbD))],206⟩)
   (fun q=>q.1≤n.links.length∧q.2.length=2*q.1∧za0 n.bridges.length [] 0 n.links=za0 n.bridges.length q.2 q.1 (n.links.drop q.1)) (fun q=>n.links.length-q.1) (0,[]) ⟨Nat.zero_le _,rfl,rfl⟩
   (Wk_g (fun g=>if g=11 then none else some g) rfl rfl kq) (fun q hR=>?_)
  obtain⟨i,had⟩:=q
  obtain⟨hi,hhl,hlk⟩:=hR
  simp only at hi hhl hlk
  dsimp only
  by_cases hli:i<n.links.length
  ·have hy:n.links[(i:Int).toNat]? = some n.links[i]:=by simp[hli]
   have hm:n.links.drop i=n.links[i]::n.links.drop (i+1):=List.drop_eq_getElem_cons hli
   generalize n.links[i]=l at hy hm
   rw[hm,zk9]at hlk
   have hc:=fun e=>zqc e i
   have hlw:l.wrong n.bridges.length=if l.a<0∨(n.bridges.length:Int)≤l.a∨l.b<0∨(n.bridges.length:Int)≤l.b then 6 else if l.a=l.b then 8
    else if l.pa<1∨30<l.pa∨l.pb<1∨30<l.pb∨l.cost<1∨200000<l.cost then 3 else 0:=by with_unfolding_all rfl
   repeat' (first|refine qU ?_|refine qW ?_|((first|apply dX rfl|apply Da rfl rfl|apply Db rfl rfl qN);(focus ((try intro hg);first|exact zaf rfl rfl (by omega) hy|exact zcI 12 rfl rfl (zbv rfl)|exact qMo));constructor)|refine qP ?_)
   refine zat rfl (fun hb=>?_) (fun hb=>?_)
   ·simp only[Bool.or_eq_true,decide_eq_true_eq]at hb
    rw[if_pos (by omega)]at hlw
    rw[if_pos (by rw[hlw];decide),hlw]at hlk
    repeat' (first|refine qU ?_|((first|apply dX rfl|apply Da rfl rfl|apply Db rfl rfl qN);(focus ((try intro hg);first|exact zaq rfl rfl (hc 6)|exact qM));constructor)|refine qP ?_)
    refine retN (.cellA inferInstance rfl rfl rfl rfl qF .nil) ?_
    rw[hnw,hlk]
    rfl
   simp only[Bool.or_eq_false_iff,decide_eq_false_iff_not]at hb
   rw[if_neg (by omega)]at hlw
   by_cases h2:l.a=l.b
   ·rw[if_pos h2]at hlw
    rw[if_pos (by rw[hlw];decide),hlw]at hlk
    repeat' (first|refine qU ?_|refine qW ?_|((first|apply dX rfl|apply Da rfl rfl|apply Db rfl rfl qN);(focus ((try intro hg);first|exact zaq rfl rfl (hc 8)|exact qMo));constructor)|refine qP ?_)
    refine retN (.cellA inferInstance rfl rfl rfl rfl qF .nil) ?_
    rw[hnw,hlk]
    rfl
   rw[if_neg h2]at hlw
   repeat' (first|refine qU ?_|refine qW ?_|((first|apply dX rfl|apply Da rfl rfl|apply Db rfl rfl qN);(focus ((try intro hg);first|exact qMo));constructor)|refine qP ?_)
   refine zat rfl (fun hb2=>?_) (fun hb2=>?_)
   ·simp only[Bool.or_eq_true,decide_eq_true_eq]at hb2
    rw[if_pos (by omega)]at hlw
    rw[if_pos (by rw[hlw];decide),hlw]at hlk
    repeat' (first|refine qU ?_|((first|apply dX rfl|apply Da rfl rfl|apply Db rfl rfl qN);(focus ((try intro hg);first|exact zaq rfl rfl (hc 3)|exact qM));constructor)|refine qP ?_)
    refine retN (.cellA inferInstance rfl rfl rfl rfl qF .nil) ?_
    rw[hnw,hlk]
    rfl
   simp only[Bool.or_eq_false_iff,decide_eq_false_iff_not]at hb2
   rw[if_neg (by omega)]at hlw
   rw[if_neg (by rw[hlw];simp)]at hlk
   obtain⟨ps,hps⟩:∃ ps,ps=[(l.a,l.pa),(l.b,l.pb)]:=⟨_,rfl⟩
   have hpv : [[V.int .i64 l.a,V.int .i64 l.pa],[V.int .i64 l.b,V.int .i64 l.pb]]=ps.map zbD:=by rw[hps];rfl
   have hpl:ps.length=2:=by rw[hps];rfl
   have hpm:(ps.map zbD).length=2:=by rw[hps];rfl
   rw[←hps]at hlk
   repeat' (first|refine qU ?_|refine qW ?_|((first|apply dX rfl|apply Da rfl rfl|apply Db rfl rfl qN);(focus ((try intro hg);first|exact qMo));constructor)|refine qP ?_)
   simp only[hpv]
   refine zag (fun q:Nat×List (Int×Int)=>⟨[(1,.ptr 1 0),(2,.ptr 2 0),(11,.own 11 0 0 q.2.length),(14,.dat true (.fn 92 [.rp [.int .i64 i]])),(101,.dat false (.slice (n.links.map zar))),(102,.dat true (.int .i64 (n.links.map zar).length)),(103,.dat true (.int .i64 i)),
     (181,.dat true (.slice (ps.map zbD))),(182,.dat true (.int .i64 (ps.map zbD).length)),(183,.dat true (.int .i64 q.1))],
     [(1,.cells true true (n.cells.map (.dat false))),(2,.cells false true [.dat true (.int .i64 0),.dat true (.int .i64 0)]),(11,.row 0 false true 2 (q.2.map zbD)),(12,.cells true true [.dat true (.int .i64 i)])],206⟩)
    (fun q=>q.1≤2∧q.2.length=2*i+q.1∧za0 n.bridges.length [] 0 n.links=chkP (7,i) (fun h=>za0 n.bridges.length h (i+1) (n.links.drop (i+1))) q.2 (ps.drop q.1)) (fun q=>2-q.1) (0,had) ⟨Nat.zero_le _,hhl,hlk⟩ (Wk_g some rfl rfl kq) (fun q hR=>?_)
   obtain⟨m,hd⟩:=q
   obtain⟨hm2,hdl,hck⟩:=hR
   simp only at hm2 hdl hck
   dsimp only
   have hdm:(hd.map zbD).length=hd.length:=by simp
   by_cases hlm:m<2
   ·have hpx:ps[(m:Int).toNat]? = some (ps[m]'(by omega)):=by simp[show m<ps.length by omega]
    have hpn:ps.drop m=(ps[m]'(by omega))::ps.drop (m+1):=List.drop_eq_getElem_cons (by omega)
    generalize ps[m]'(by omega)=p at hpx hpn
    rw[hpn,chkP]at hck
    repeat' (first|refine qU ?_|refine qW ?_|((first|apply dX rfl|apply Da rfl rfl|apply Db rfl rfl qN);(focus ((try intro hg);first|exact zaf (f:=zbD) rfl rfl (by omega) hpx|exact qMo));constructor)|refine qP ?_)
    refine zag (fun j:Nat=>⟨[(1,.ptr 1 0),(2,.ptr 2 0),(11,.own 11 0 0 hd.length),(14,.dat true (.fn 92 [.rp [.int .i64 i]])),(17,.ptr 17 0),(101,.dat false (.slice (n.links.map zar))),(102,.dat true (.int .i64 (n.links.map zar).length)),(103,.dat true (.int .i64 i)),
      (181,.dat true (.slice (ps.map zbD))),(182,.dat true (.int .i64 (ps.map zbD).length)),(183,.dat true (.int .i64 m)),(187,.own 11 0 0 hd.length),(188,.dat true (.int .i64 hd.length)),(189,.dat true (.int .i64 j))],
      [(1,.cells true true (n.cells.map (.dat false))),(2,.cells false true [.dat true (.int .i64 0),.dat true (.int .i64 0)]),(11,.row 0 false true 2 (hd.map zbD)),(12,.cells true true [.dat true (.int .i64 i)]),(17,.cells false true ((zbD p).map (.dat true)))],206⟩)
     (fun j=>j≤hd.length∧p∉hd.take j) (fun j=>hd.length-j) 0 ⟨Nat.zero_le _,by simp⟩ (Wk_g some rfl rfl kq) (fun j hR=>?_)
    obtain⟨hj,hnot⟩:=hR
    by_cases hltj:j<hd.length
    ·have hxj:hd[(j:Int).toNat]? = some hd[j]:=by simp[hltj]
     have hxj':hd[j]? = some hd[j]:=by simp[hltj]
     have hmj:hd[j]∈hd:=List.getElem_mem hltj
     generalize hd[j]=q at hxj hxj' hmj
     have hmq:(hd.map zbD)[(j:Int).toNat]? = some (zbD q):=by rw[List.getElem?_map,hxj];rfl
     have htj:hd.take (j+1)=hd.take j++[q]:=by rw[List.take_add_one,hxj'];rfl
     by_cases hpq:p=q
     ·rw[if_pos (by rw[hpq];exact hmj)]at hck
      repeat' (first|refine qU ?_|refine qW ?_|((first|apply dX rfl|apply Da rfl rfl|apply Db rfl rfl qN);(focus ((try intro hg);first|exact zc7 rfl rfl rfl (by omega) (by omega)|exact zbn rfl rfl hmq rfl|exact zab (ze6 rfl rfl rfl rfl (zi0 p q)) (decide_eq_true hpq)|exact zaq rfl rfl (hc 7)|exact qMo));constructor)|refine qP ?_)
      refine retN (.cellA inferInstance rfl rfl rfl rfl qF .nil) ?_
      rw[hnw,hck]
      rfl
     ·repeat' (first|refine qU ?_|refine qW ?_|((first|apply dX rfl|apply Da rfl rfl|apply Db rfl rfl qN);(focus ((try intro hg);first|exact zc7 rfl rfl rfl (by omega) (by omega)|exact zbn rfl rfl hmq rfl|exact zab (ze6 rfl rfl rfl rfl (zi0 p q)) (decide_eq_false hpq)|exact qMo));constructor)|refine qP ?_)
      exact zaa (j+1) ⟨hltj,by rw[htj];simp[hnot,hpq]⟩ (by omega) (Wk_g some rfl rfl kq)
    ·rw[List.take_of_length_le (by omega)]at hnot
     rw[if_neg hnot]at hck
     repeat' (first|refine qU ?_|refine qW ?_|((first|apply dX rfl|apply Da rfl rfl|apply Db rfl rfl qN);(focus ((try intro hg);first|exact zan (f:=zbD) (us:=hd) (bs := [p]) rfl rfl (.dat _ _) rfl rfl (.inl rfl) rfl (by simp only[List.length_singleton];omega)|exact qMo));constructor)|refine qP ?_)
     exact zaa (m+1,hd++[p]) ⟨hlm,by simp only[List.length_append,List.length_singleton];omega,hck⟩ (by simp only;omega) (Wk_g some rfl rfl kq)
   ·have hmm:m=2:=by omega
    subst hmm
    rw[show ps.drop 2=[]from List.drop_eq_nil_of_le (by omega),chkP]at hck
    repeat' (first|refine qU ?_|refine qW ?_|((first|apply dX rfl|apply Da rfl rfl|apply Db rfl rfl qN);(focus ((try intro hg);first|exact qMo));constructor)|refine qP ?_)
    exact zaa (i+1,hd) ⟨hli,by simp only;omega,hck⟩ (by simp only;omega) (Wk_g some rfl rfl kq)
  ·rw[List.drop_eq_nil_of_le (by omega),za0]at hlk
   repeat' (first|refine qU ?_|refine qW ?_|((first|apply dX rfl|apply Da rfl rfl|apply Db rfl rfl qN);(focus ((try intro hg);first|exact qMo));constructor)|refine qP ?_)
   refine retN (.cellA inferInstance rfl rfl rfl rfl qF .nil) ?_
   rw[hnw,hlk]
   rfl
end Go.Proofs.YtcdhlofhhcgohaaGreat
namespace Go.Proofs.YtcdhlofhhcgohaaGreat
open Go.RowKit
attribute [local irreducible] SStep DW DWin DOps zaG zaE zaJ retQ zaN FnF FnG FnI Wk IntKind.wrap IntKind.andI IntKind.orI IntKind.xorI IntKind.andNotI IntKind.shlI IntKind.shrI Net.wrong zah idN
theorem zet (e at_:Int):FnF Tryz.prog 58 [.int .i64 e,.int .i64 at_] (.tuple [.agg [.slice [],.slice []],.agg [.slice []],.agg [.int .i64 e,.int .i64 at_]]):=by
 refine zal Tryz.func58 rfl rfl rfl ?_
 simp only[zap]
 repeat' (first|refine qU ?_|((first|apply dX rfl|apply Da rfl rfl|apply Db rfl rfl qN);(focus ((try intro hg);first|exact qM));constructor)|refine qP ?_)
 refine retN (.cellA inferInstance rfl rfl rfl rfl qF (.cellA inferInstance rfl rfl rfl rfl qF (.cellA inferInstance rfl rfl rfl rfl qF .nil))) ?_
 rfl
set_option maxHeartbeats 4000000 in
theorem ziA (n:Net) (ht:n.typed) (trees:Int):FnF Tryz.prog 13 [n.v,.int .i64 trees] (.tuple [zaO (zbN n trees).1,zb1 (zbN n trees).2]):=by
 refine zal Tryz.func13 rfl rfl rfl ?_
 simp only[zap]
 have hwr:=zb4 n ht.wy
 unfold zbN
 by_cases h0n:n.wrong.1≠0
 ·have h0m:¬n.wrong.1=0:=h0n
  rw[if_pos h0n]
  clear h0n
  generalize n.wrong=f at hwr h0m ⊢
  obtain⟨e,i⟩:=f
  have h0':e≠0:=h0m
  repeat' (first|refine qU ?_|refine qW ?_|((first|apply dX rfl|apply Da rfl rfl|apply Db rfl rfl qN);(focus ((try intro hg);first|exact zac hwr rfl|exact qMo));constructor)|refine qP ?_)
  refine retN (.cellA inferInstance rfl rfl rfl rfl qF (.cellA inferInstance rfl rfl rfl rfl qF .nil)) ?_
  rfl
 have h0:n.wrong.1=0:=Decidable.not_not.1 h0n
 have h:=((Net.wrong_iff ht).1 h0).1
 rw[if_neg h0n]
 have hwz:=Net.wrong_zero h0
 rw[hwz]at hwr
 by_cases h1:trees<1∨4<trees
 ·rw[if_pos h1]
  by_cases h2:trees<1
  ·repeat' (first|refine qU ?_|refine qW ?_|((first|apply dX rfl|apply Da rfl rfl|apply Db rfl rfl qN);(focus ((try intro hg);first|exact zac hwr rfl|exact qMo));constructor)|refine qP ?_)
   refine retN (.cellA inferInstance rfl rfl rfl rfl qF (.cellA inferInstance rfl rfl rfl rfl qF .nil)) ?_
   rfl
  ·repeat' (first|refine qU ?_|refine qW ?_|((first|apply dX rfl|apply Da rfl rfl|apply Db rfl rfl qN);(focus ((try intro hg);first|exact zac hwr rfl|exact qMo));constructor)|refine qP ?_)
   refine retN (.cellA inferInstance rfl rfl rfl rfl qF (.cellA inferInstance rfl rfl rfl rfl qF .nil)) ?_
   rfl
 rw[if_neg h1]
 obtain⟨T,rfl⟩:∃ T:Nat,trees=(T:Int):=⟨trees.toNat,by omega⟩
 rw[Int.toNat_natCast]
 have hmb:(n.bridges.map zaj).length=n.bridges.length:=by simp
 have hnb:=h.nb
 have hnl:=h.nl
 repeat' (first|refine qU ?_|refine qW ?_|((first|apply dX rfl|apply Da rfl rfl|apply Db rfl rfl qN);(focus ((try intro hg);first|exact zac hwr rfl|exact qMo));constructor)|refine qP ?_)
 refine zag (fun q:Nat×List (List Mind)=>⟨[(1,.dat false (.int .i64 T)),(2,.ptr 2 0),(4,.ptr 4 0),(5,.ptr 5 0),(7,.ptr 7 0),(8,.dat true (.int .i64 q.1))],[(2,.cells false true (n.cells.map (.dat false))),(4,.cells false true [.nil]),(5,.cells false true [.dat true (.int .i64 0),.dat true (.int .i64 0)]),(7,.cells false true [.own 900 q.2.length 0 q.2.length]),(900,.row q.2.length false true 1 (q.2.map zae))],72⟩)
  (fun q=>q.1≤T∧q.2=(start0 n T).take q.1) (fun q=>T-q.1) (0,[]) ⟨Nat.zero_le _,rfl⟩
  (Wk_g (fun g=>if g=900 then none else some g) rfl rfl kq) (fun q hR=>?_)
 obtain⟨k,us⟩:=q
 obtain⟨hk,hus⟩:=hR
 simp only at hk hus
 dsimp only
 have hsl:(start0 n T).length=T:=by simp[start0]
 have hul:us.length=k:=by rw[hus,List.length_take];omega
 by_cases hlt:k<T
 ·have hst:(start0 n T).take (k+1)=us++[(List.range n.bridges.length).map (mind0 n k)]:=by
   have:(start0 n T)[k]? = some ((List.range n.bridges.length).map (mind0 n k)):=by simp[start0,hlt]
   rw[List.take_add_one,this,hus];rfl
  repeat' (first|refine qU ?_|refine qW ?_|((first|apply dX rfl|apply Da rfl rfl|apply Db rfl rfl qN);(focus ((try intro hg);first|exact qMo));constructor)|refine qP ?_)
  refine zag (fun q:Nat×List Mind=>⟨[(1,.dat false (.int .i64 T)),(2,.ptr 2 0),(4,.ptr 4 0),(5,.ptr 5 0),(7,.ptr 7 0),(8,.dat true (.int .i64 k)),(9,.own 901 0 0 q.2.length),(36,.dat false (.slice (n.bridges.map zaj))),(37,.dat true (.int .i64 (n.bridges.map zaj).length)),(38,.dat true (.int .i64 q.1))],
    [(2,.cells false true (n.cells.map (.dat false))),(4,.cells false true [.nil]),(5,.cells false true [.dat true (.int .i64 0),.dat true (.int .i64 0)]),(7,.cells false true [.own 900 us.length 0 us.length]),(900,.row us.length false true 1 (us.map zae)),(901,.row 0 false true 9 (q.2.map Mind.cells))],72⟩)
   (fun q=>q.1≤n.bridges.length∧q.2=(List.range q.1).map (mind0 n k)) (fun q=>n.bridges.length-q.1) (0,[]) ⟨Nat.zero_le _,rfl⟩
   (Wk_g (fun g=>if g=901 then none else some g) rfl rfl kqp) (fun q hR=>?_)
  obtain⟨j,vs⟩:=q
  obtain⟨hj,hvs⟩:=hR
  simp only at hj hvs
  dsimp only
  have hvl:vs.length=j:=by rw[hvs];simp
  by_cases hlj:j<n.bridges.length
  ·have hx:n.bridges[(j:Int).toNat]? = some n.bridges[j]:=by simp[hlj]
   have hx':n.bridges[j]? = some n.bridges[j]:=by simp[hlj]
   have hbo:=h.br n.bridges[j] (List.getElem_mem hlj)
   have hidn:=zmH (tree:=(k:Int)) hx'
   have hid:=zh9 n.bridges[j] hbo k
   rw[←hidn]at hid
   generalize n.bridges[j]=b at hx hid
   have hpo:=zes n h j
   have hst2:(List.range (j+1)).map (mind0 n k)=vs++[mind0 n k j]:=by rw[List.range_succ,List.map_append,hvs];rfl
   have hm0:mind0 n k j=⟨⟨idN n k j,0,idN n k j,0⟩,0, -1,zah n.links j,List.replicate (zah n.links j).length 0,List.replicate (zah n.links j).length 0⟩:=by
    unfold mind0
    rw[List.map_const']
   have hpl:(zah n.links j).length≤80:=by
    have:=zbz n.links j
    rw[zaW];unfold zcj;rw[List.length_mergeSort];omega
   rw[hm0]at hst2
   generalize zah n.links j=ps at hpo hst2 hpl
   generalize idN n k j=me at hid hst2
   have hmp:(ps.map zad).length=ps.length:=by simp
   repeat' (first|refine qU ?_|refine qW ?_|((first|apply dX rfl|apply Da rfl rfl|apply Db rfl rfl qN);(focus ((try intro hg);first|exact zaf rfl rfl (by omega) hx|exact zac hid rfl|exact zac hpo rfl|exact ztB (f:=zad) (l:=ps.length) (c:=ps.length) (0:Int) rfl rfl (by rw[hmp]) (by rw[hmp]) (Nat.le_refl _) (by omega) rfl|exact zan (f:=Mind.cells) (us:=vs) (bs := [⟨⟨me,0,me,0⟩,0, -1,ps,List.replicate ps.length 0,List.replicate ps.length 0⟩]) rfl rfl (.dat _ _) rfl rfl (.inl rfl) rfl (by simp only[List.length_singleton];omega)|exact qMo));constructor)|refine qP ?_)
   exact zaa (j+1,vs++[⟨⟨me,0,me,0⟩,0, -1,ps,List.replicate ps.length 0,List.replicate ps.length 0⟩]) ⟨hlj,hst2.symm⟩ (by simp only;omega) (Wk_g some rfl rfl kqp)
  ·have he:vs=(List.range n.bridges.length).map (mind0 n k):=by rw[hvs,show j=n.bridges.length by omega]
   refine zaR 9 rfl rfl (by simp) ?_
   repeat' (first|refine qU ?_|refine qW ?_|((first|apply dX rfl|apply Da rfl rfl|apply Db rfl rfl qN);(focus ((try intro hg);first|exact zan (f:=zae) (us:=us) (bs := [vs]) rfl rfl (.dat _ _) rfl rfl (.inl rfl) rfl (by simp only[List.length_singleton];omega)|exact qMo));constructor)|refine qP ?_)
   exact zaa (k+1,us++[vs]) ⟨hlt,by rw[hst,he]⟩ (by simp only;omega) (Wk_g some rfl rfl kqp)
 ·have he:us=start0 n T:=by rw[hus,List.take_of_length_le (by omega)]
  refine zaZ (s':=⟨[(1,.dat false (.int .i64 T)),(4,.ptr 4 0),(5,.ptr 5 0),(7,.ptr 7 0),(8,.dat true (.int .i64 k))],[(2,.cells false true (n.cells.map (.dat false))),(4,.cells false true [.nil]),(5,.cells false true [.dat true (.int .i64 0),.dat true (.int .i64 0)]),(7,.cells false true [.own 900 0 0 us.length]),(900,.row 0 false true 1 (us.map zae))],72⟩) (Wk_g some rfl rfl kqp) ?_
  refine zaD 900 (fun _ _ _ h=>by cases h) ?_
  repeat' (first|refine qU ?_|refine qW ?_|((first|apply dX rfl|apply Da rfl rfl|apply Db rfl rfl qN);(focus ((try intro hg);first|exact qMo));constructor)|refine qP ?_)
  refine retN (.cellA inferInstance rfl rfl rfl rfl qF (.cellA inferInstance rfl rfl rfl rfl qF .nil)) ?_
  rw[he]
  show V.tuple [V.agg [V.slice (List.take _ (List.drop 0 _))],_]=_
  rw[List.drop_zero,List.take_of_length_le (by simp)]
  rfl
end Go.Proofs.YtcdhlofhhcgohaaGreat
namespace Go.Proofs.YtcdhlofhhcgohaaGreat
open Go.RowKit
attribute [local irreducible] SStep DW DWin DOps zaG zaE zaJ retQ zaN FnF FnG FnI Wk IntKind.wrap IntKind.andI IntKind.orI IntKind.xorI IntKind.andNotI IntKind.shlI IntKind.shrI zah
theorem ziB (n:Net):FnF Tryz.prog 59 [n.v,zaO []] (.bool false):=by
 refine zal Tryz.func59 rfl rfl rfl ?_
 simp only[zap]
 repeat' (first|refine qU ?_|refine qW ?_|((first|apply dX rfl|apply Da rfl rfl|apply Db rfl rfl qN);(focus ((try intro hg);first|exact qMo));constructor)|refine qP ?_)
 refine ret1 rfl qF ?_
 rfl
set_option maxHeartbeats 8000000 in
theorem zhB (n:Net) (h:n.good) (t:List (List Mind)) (ht:goodT n t) (h1:1≤t.length):FnF Tryz.prog 59 [n.v,zaO t] (.bool true):=by
 refine zal Tryz.func59 rfl rfl rfl ?_
 simp only[zap,zaO]
 have hmt:(t.map zae).length=t.length:=by simp
 have hmb:(n.bridges.map zaj).length=n.bridges.length:=by simp
 have hnb:=h.nb
 have htl:=ht.l
 repeat' (first|refine qU ?_|refine qW ?_|((first|apply dX rfl|apply Da rfl rfl|apply Db rfl rfl qN);(focus ((try intro hg);first|exact qMo));constructor)|refine qP ?_)
 refine zag (fun k:Nat=>⟨[(2,.ptr 2 0),(22,.dat false (.slice (t.map zae))),(23,.dat true (.int .i64 (t.map zae).length)),(24,.dat true (.int .i64 k))],[(2,.cells false true (n.cells.map (.dat false)))],84⟩)
  (fun k=>k≤t.length) (fun k=>t.length-k) 0 (Nat.zero_le _) (Wk_g some rfl rfl kq) (fun k hk=>?_)
 by_cases hlt:k<t.length
 ·have hx:t[(k:Int).toNat]? = some t[k]:=by simp[hlt]
  obtain⟨hl,hm⟩:=ht.m t[k] (List.getElem_mem hlt)
  generalize t[k]=l at hx hl hm
  have hml:(l.map Mind.cells).length=l.length:=by simp
  repeat' (first|refine qU ?_|refine qW ?_|((first|apply dX rfl|apply Da rfl rfl|apply Db rfl rfl qN);(focus ((try intro hg);first|exact zaf rfl rfl (by omega) hx|exact qMo));constructor)|refine qP ?_)
  refine zag (fun j:Nat=>⟨[(2,.ptr 2 0),(22,.dat false (.slice (t.map zae))),(23,.dat true (.int .i64 (t.map zae).length)),(24,.dat true (.int .i64 k)),(34,.dat false (.slice (l.map Mind.cells))),(35,.dat true (.int .i64 (l.map Mind.cells).length)),(36,.dat true (.int .i64 j))],[(2,.cells false true (n.cells.map (.dat false)))],84⟩)
   (fun j=>j≤l.length) (fun j=>l.length-j) 0 (Nat.zero_le _) (Wk_g some rfl rfl kq) (fun j hj=>?_)
  by_cases hlj:j<l.length
  ·have hy:l[(j:Int).toNat]? = some l[j]:=by simp[hlj]
   have hgm:=hm j l[j] (by simp[hlj])
   generalize l[j]=m at hy hgm
   have hpo:=zes n h j
   have hpl:(zah n.links j).length≤80:=by
    have:=zbz n.links j
    have:=h.nl
    rw[zaW];unfold zcj;rw[List.length_mergeSort];omega
   have e0:=hgm.p
   have e1:=hgm.r
   have e2:=hgm.c
   generalize zah n.links j=ps at hpo hpl e0 e1 e2
   have m0:(m.ports.map zad).length=ps.length:=by rw[e0];simp
   have m1:(ps.map zad).length=ps.length:=by simp
   have m2:(m.roles.map zad).length=ps.length:=by simp[e1]
   have m3:(m.calm.map zad).length=ps.length:=by simp[e2]
   repeat' (first|refine qU ?_|refine qW ?_|((first|apply dX rfl|apply Da rfl rfl|apply Db rfl rfl qN);(focus ((try intro hg);first|exact zaf rfl rfl (by omega) hy|exact zac hpo rfl|exact qMo));constructor)|refine qP ?_)
   refine zag (fun i:Nat=>⟨[(2,.ptr 2 0),(22,.dat false (.slice (t.map zae))),(23,.dat true (.int .i64 (t.map zae).length)),(24,.dat true (.int .i64 k)),(34,.dat false (.slice (l.map Mind.cells))),(35,.dat true (.int .i64 (l.map Mind.cells).length)),(36,.dat true (.int .i64 j)),(8,.ptr 8 0),(9,.dat true (.slice (ps.map zad))),(67,.dat true (.int .i64 (ps.map zad).length)),(68,.dat true (.int .i64 i))],[(2,.cells false true (n.cells.map (.dat false))),(8,.cells false true (m.cells.map (.dat false)))],84⟩)
    (fun i=>i≤ps.length) (fun i=>ps.length-i) 0 (Nat.zero_le _) (Wk_g some rfl rfl kq) (fun i hi=>?_)
   by_cases hli:i<ps.length
   ·have hz:ps[(i:Int).toNat]? = some ps[i]:=by simp[hli]
    have hz2:m.ports[(i:Int).toNat]? = some ps[i]:=by rw[e0];exact hz
    generalize ps[i]=p at hz hz2
    repeat' (first|refine qU ?_|refine qW ?_|((first|apply dX rfl|apply Da rfl rfl|apply Db rfl rfl qN);(focus ((try intro hg);first|exact zaf rfl rfl (by omega) hz|exact zaf rfl rfl (by omega) hz2|exact qMo));constructor)|refine qP ?_)
    exact zaa (i+1) hli (by omega) (Wk_g some rfl rfl kq)
   ·repeat' (first|refine qU ?_|refine qW ?_|((first|apply dX rfl|apply Da rfl rfl|apply Db rfl rfl qN);(focus ((try intro hg);first|exact qMo));constructor)|refine qP ?_)
    exact zaa (j+1) hlj (by omega) (Wk_g some rfl rfl kq)
  ·repeat' (first|refine qU ?_|refine qW ?_|((first|apply dX rfl|apply Da rfl rfl|apply Db rfl rfl qN);(focus ((try intro hg);first|exact qMo));constructor)|refine qP ?_)
   exact zaa (k+1) hlt (by omega) (Wk_g some rfl rfl kq)
 ·repeat' (first|refine qU ?_|refine qW ?_|((first|apply dX rfl|apply Da rfl rfl|apply Db rfl rfl qN);(focus ((try intro hg);first|exact qMo));constructor)|refine qP ?_)
  refine ret1 rfl qF ?_
  rfl
set_option maxHeartbeats 8000000 in
theorem ziC (n:Net) (h:n.good) (t:List (List Mind)) (ht:goodT n t) (tree bridge port:Int):FnF Tryz.prog 19 [zaO t,.int .i64 tree,.int .i64 bridge,.int .i64 port] (.bool (zdh t tree bridge port)):=by
 refine zal Tryz.func19 rfl rfl rfl ?_
 simp only[zap,zaO]
 have hmt:(t.map zae).length=t.length:=by simp
 have hnb:=h.nb
 have htl:=ht.l
 unfold zdh
 by_cases c1:tree<0
 ·rw[if_pos (.inl c1)]
  repeat' (first|refine qU ?_|refine qW ?_|((first|apply dX rfl|apply Da rfl rfl|apply Db rfl rfl qN);(focus ((try intro hg);first|exact qMo));constructor)|refine qP ?_)
  refine ret1 rfl qF ?_
  rfl
 by_cases c2:(t.length:Int)≤tree
 ·rw[if_pos (.inr (.inl c2))]
  repeat' (first|refine qU ?_|refine qW ?_|((first|apply dX rfl|apply Da rfl rfl|apply Db rfl rfl qN);(focus ((try intro hg);first|exact qMo));constructor)|refine qP ?_)
  refine ret1 rfl qF ?_
  rfl
 by_cases c3:bridge<0
 ·rw[if_pos (.inr (.inr c3))]
  repeat' (first|refine qU ?_|refine qW ?_|((first|apply dX rfl|apply Da rfl rfl|apply Db rfl rfl qN);(focus ((try intro hg);first|exact qMo));constructor)|refine qP ?_)
  refine ret1 rfl qF ?_
  rfl
 rw[if_neg (by omega)]
 have hxl:tree.toNat<t.length:=by omega
 have hx:t[tree.toNat]? = some t[tree.toNat]:=by simp[hxl]
 obtain⟨hl,hm⟩:=ht.m t[tree.toNat] (List.getElem_mem hxl)
 rw[hx,Option.getD_some]
 generalize t[tree.toNat]=l at hx hl hm
 have hml:(l.map Mind.cells).length=l.length:=by simp
 dsimp only
 by_cases c4:(l.length:Int)≤bridge
 ·rw[if_pos c4]
  repeat' (first|refine qU ?_|refine qW ?_|((first|apply dX rfl|apply Da rfl rfl|apply Db rfl rfl qN);(focus ((try intro hg);first|exact zaf rfl rfl (by omega) hx|exact qMo));constructor)|refine qP ?_)
  refine ret1 rfl qF ?_
  rfl
 rw[if_neg c4]
 have hyl:bridge.toNat<l.length:=by omega
 have hy:l[bridge.toNat]? = some (mAt l bridge.toNat):=zpf hyl
 have hgm:=hm bridge.toNat _ hy
 generalize mAt l bridge.toNat=m at hy hgm
 have e2:m.calm.length=m.ports.length:=by rw[hgm.c,hgm.p]
 have hpl:m.ports.length≤80:=by
  have:=zbz n.links (bridge.toNat:Nat)
  have:=h.nl
  rw[hgm.p,zaW];unfold zcj;rw[List.length_mergeSort];omega
 have m1:(m.ports.map zad).length=m.ports.length:=by simp
 have m3:(m.calm.map zad).length=m.calm.length:=by simp
 repeat' (first|refine qU ?_|refine qW ?_|((first|apply dX rfl|apply Da rfl rfl|apply Db rfl rfl qN);(focus ((try intro hg);first|exact zaf rfl rfl (by omega) hx|exact zaf rfl rfl (by omega) hy|exact qMo));constructor)|refine qP ?_)
 refine zag (fun k:Nat=>⟨[(3,.dat false (.int .i64 port)),(9,.ptr 9 0),(44,.dat false (.slice (m.ports.map zad))),(45,.dat true (.int .i64 (m.ports.map zad).length)),(46,.dat true (.int .i64 k))],[(9,.cells false true (m.cells.map (.dat false)))],68⟩)
  (fun k=>k≤m.ports.length∧∀ j,j<k→m.ports[j]? ≠ some port) (fun k=>m.ports.length-k) 0 ⟨Nat.zero_le _,fun j hj=>by omega⟩ (Wk_g some rfl rfl kq) (fun k hR=>?_)
 obtain⟨hk,hno⟩:=hR
 unfold zpi
 by_cases hlt:k<m.ports.length
 ·have hz:m.ports[(k:Int).toNat]? = some m.ports[k]:=by simp[hlt]
  have hz':m.ports[k]? = some m.ports[k]:=by simp[hlt]
  generalize m.ports[k]=y at hz hz'
  by_cases he:y=port
  ·subst he
   have hix:=zjp hno hz'
   have hkc:k<m.calm.length:=by omega
   have hw:m.calm[(k:Int).toNat]? = some m.calm[k]:=by simp[hkc]
   have hc:cAt m k=m.calm[k]:=by unfold cAt;simp[hkc]
   rw[hix]
   dsimp only
   rw[hc,decide_eq_true hkc,Bool.true_and]
   generalize m.calm[k]=c at hw
   repeat' (first|refine qU ?_|refine qW ?_|((first|apply dX rfl|apply Da rfl rfl|apply Db rfl rfl qN);(focus ((try intro hg);first|exact zaf rfl rfl (by omega) hz|exact zaf rfl rfl (by omega) hw|exact qMo));constructor)|refine qP ?_)
   refine ret1 rfl qF ?_
   rfl
  ·repeat' (first|refine qU ?_|refine qW ?_|((first|apply dX rfl|apply Da rfl rfl|apply Db rfl rfl qN);(focus ((try intro hg);first|exact zaf rfl rfl (by omega) hz|exact qMo));constructor)|refine qP ?_)
   exact zaa (k+1) ⟨hlt,fun j hj e=>by
    by_cases h1:j=k
    ·rw[h1,hz']at e;injection e with e;exact he e
    ·exact hno j (by omega) e⟩ (by omega) (Wk_g some rfl rfl kq)
 ·have hix:=zpw (p:=port) (l:=m.ports) (fun j hj=>hno j (by omega))
  rw[hix]
  repeat' (first|refine qU ?_|refine qW ?_|((first|apply dX rfl|apply Da rfl rfl|apply Db rfl rfl qN);(focus ((try intro hg);first|exact qMo));constructor)|refine qP ?_)
  refine ret1 rfl qF ?_
  rfl
end Go.Proofs.YtcdhlofhhcgohaaGreat
namespace Go.Proofs.YtcdhlofhhcgohaaGreat
open Go.RowKit
def acrL (b p:Int) (l:Link):List (Int×Int):=(if l.up=true∧l.a=b∧l.pa=p then [(l.b,l.pb)]else [])++(if l.up=true∧l.b=b∧l.pb=p then [(l.a,l.pa)]else [])
theorem zjH {b p:Int}:∀ {ls:List Link},(b,p)∉zbI ls→ls.flatMap (acrL b p)=[]
 | [],_=>rfl
 | l::r,h=>by
  have h1:¬((b,p)=(l.a,l.pa)∨(b,p)=(l.b,l.pb))∧(b,p)∉zbI r:=by
   unfold zbI at h ⊢
   rw[List.flatMap_cons]at h
   simp only[List.mem_append,List.mem_cons,List.mem_nil_iff,or_false,not_or]at h ⊢
   exact h
  rw[List.flatMap_cons,zjH h1.2]
  unfold acrL
  rw[if_neg (fun e=>h1.1 (.inl (by rw[e.2.1,e.2.2]))),if_neg (fun e=>h1.1 (.inr (by rw[e.2.1,e.2.2])))]
  rfl
theorem zqd {b p:Int}:∀ {ls:List Link},(zbI ls).Nodup→ls.flatMap (acrL b p)=(match zbT ls b p with|none=>[]|some q=>[q])
 | [],_=>rfl
 | l::r,h=>by
  have h1:(l.a,l.pa)≠(l.b,l.pb)∧(l.a,l.pa)∉zbI r∧(l.b,l.pb)∉zbI r∧(zbI r).Nodup:=by
   have h':((l.a,l.pa)::(l.b,l.pb)::zbI r).Nodup:=h
   have h2:=List.nodup_cons.1 h'
   have h3:=List.nodup_cons.1 h2.2
   exact⟨fun e=>h2.1 (by rw[e];simp),fun e=>h2.1 (List.mem_cons.2 (.inr e)),h3.1,h3.2⟩
  rw[List.flatMap_cons,zbT]
  have e1:acrL b p l=(if l.up=true∧l.a=b∧l.pa=p then [(l.b,l.pb)]else [])++(if l.up=true∧l.b=b∧l.pb=p then [(l.a,l.pa)]else []):=rfl
  by_cases c1:l.up=true∧l.a=b∧l.pa=p
  ·have hn:=zjH (b:=b) (p:=p) (ls:=r) (by rw[←c1.2.1,←c1.2.2];exact h1.2.1)
   rw[e1,hn,if_pos c1,if_pos c1,if_neg (fun e=>h1.1 (by rw[c1.2.1,c1.2.2,e.2.1,e.2.2]))]
   rfl
  ·by_cases c2:l.up=true∧l.b=b∧l.pb=p
   ·have hn:=zjH (b:=b) (p:=p) (ls:=r) (by rw[←c2.2.1,←c2.2.2];exact h1.2.2.1)
    rw[e1,hn,if_neg c1,if_neg c1,if_pos c2,if_pos c2]
    rfl
   ·rw[e1,if_neg c1,if_neg c1,if_neg c2,if_neg c2]
    exact zqd h1.2.2.2
theorem zrR {b p:Int} {ls:List Link} {j:Nat} {x:Link} (h:ls[j]? = some x):(ls.take (j+1)).flatMap (acrL b p)=(ls.take j).flatMap (acrL b p)++acrL b p x:=by
 rw[List.take_add_one,h,List.flatMap_append];simp
theorem ztP {b p a pa b' pb cost:Int}:acrL b p ⟨a,pa,b',pb,cost,true⟩=(if a=b∧pa=p then [(b',pb)]else [])++(if b'=b∧pb=p then [(a,pa)]else []):=by unfold acrL;simp
theorem zrS {b p a pa b' pb cost:Int}:acrL b p ⟨a,pa,b',pb,cost,false⟩=[]:=by unfold acrL;simp
theorem zqe : ∀ {ls:List Link} {x:Link},(zbI ls).Nodup→x∈ls→(x.a,x.pa)≠(x.b,x.pb)
 | l::r,x,h,hx=>by
  have h':((l.a,l.pa)::(l.b,l.pb)::zbI r).Nodup:=h
  have h2:=List.nodup_cons.1 h'
  have h3:=List.nodup_cons.1 h2.2
  rcases List.mem_cons.1 hx with rfl|hx
  ·exact fun e=>h2.1 (by rw[e];simp)
  ·exact zqe h3.2 hx
theorem ztq (b p:Int) (l:Link):(acrL b p l).length≤2:=by
 unfold acrL
 rw[List.length_append]
 split<;>split<;>simp
theorem zqf (b p:Int):∀ ls:List Link,(ls.flatMap (acrL b p)).length≤2*ls.length
 | []=>Nat.le_refl _
 | l::r=>by
  rw[List.flatMap_cons,List.length_append,List.length_cons]
  have:=ztq b p l
  have:=zqf b p r
  omega
end Go.Proofs.YtcdhlofhhcgohaaGreat
