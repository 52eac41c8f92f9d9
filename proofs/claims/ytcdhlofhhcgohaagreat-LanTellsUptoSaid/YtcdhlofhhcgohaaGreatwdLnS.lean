/- Contract: lan.Send. -/
import Derived.Test.YtcdhlofhhcgohaaGreatwbApl
import Derived.Test.YtcdhlofhhcgohaaGreatwcTlo
import Derived.Test.YtcdhlofhhcgohaaGreatwdLnG
import Derived.Test.YtcdhlofhhcgohaaGreatwdTlw
namespace Go.Proofs.YtcdhlofhhcgohaaGreat
open Go.RowKit
def bkP (p:Bool×List Ent):D := .dat p.1 (.slice (p.2.map entV))
instance : DatI bkP:=⟨fun p=>⟨p.1,_,rfl⟩⟩
def bkT (b:Bool) (bs:List (List Ent)):List (Bool×List Ent):=bs.map fun l=>(b,l)
theorem zhw (b:Bool) (bs:List (List Ent)):(bkT b bs).length=bs.length:=by simp[bkT]
theorem zjF {b:Bool} {bs:List (List Ent)} {i:Nat} {l:List Ent} (h:bs[i]? = some l):(bkT b bs)[i]? = some (b,l):=by unfold bkT;rw[List.getElem?_map,h];rfl
theorem zto (b:Bool) (bs:List (List Ent)) (i:Nat) (l:List Ent):(bkT b bs).set i (b,l)=bkT b (bs.set i l):=by unfold bkT;rw[List.map_set]
theorem zp2 : ∀ bs:List (List Ent),((bs.map za8).flatten).map (D.dat false)=(bkT false bs).map bkP
 | []=>rfl
 | l::r=>by
  have ih:=zp2 r
  rw[List.map_cons,List.flatten_cons,List.map_append,ih];rfl
theorem ztO {C:Cf} {m:Mem} {g:Nat} {v:Value} {bs:List (List Ent)} (hm:HoldsM C m) (hg:m.at g = .cells true true ((bkT true bs).map bkP)) (h:RdS C m (.sl g bs.length) v):RdD C m (.dat true (.slice (bs.map za8))) v:=by
 refine zq2 (sz:=1) (fl:=true) hm hg (fun _=>rfl) _ (fun i e h=>?_) (fun i j e x h1 h2=>?_) (by simp) h
 ·rw[List.getElem?_map]at h
  obtain⟨r,_,rfl⟩:=Option.map_eq_some_iff.1 h
  rfl
 ·rw[List.getElem?_map]at h1
  obtain⟨r,hr,rfl⟩:=Option.map_eq_some_iff.1 h1
  have hj:j<1:=by have:=(List.getElem?_eq_some_iff.1 h2).1;exact this
  obtain rfl:j=0:=by omega
  rw[Nat.mul_one,Nat.add_zero,List.getElem?_map,zjF hr]
  injection h2 with h2
  subst h2
  exact⟨rfl,_,_,rfl,rfl,fun _=>.inl rfl⟩
theorem ziz (r:Region) (gs:List Gate) (l:List Ent) (port:Int) (f:Frame):(zaQ r gs l port f).1.length≤gs.length:=by
 unfold zaQ
 repeat' split
 all_goals try exact Nat.zero_le _
 unfold zhc
 split
 ·exact Nat.zero_le _
 ·unfold zhb
  split
  ·exact Nat.zero_le _
  ·exact zfi ..
theorem zk7 {n:Net} (h:n.good) (t:List (List Mind)) (b vid:Int):(zbc n t b vid).length≤81:=by
 unfold zbc
 rw[List.length_cons,List.length_map]
 have:=zjr h b
 omega
theorem ztp {n:Net} {t:List (List Mind)} (h0:n.wrong.1=0):onA n t []=(some (n,t),(0,0)):=by
 unfold onA
 rw[if_neg (by omega),if_neg (by simp),zaX]
theorem zjG {α:Type} {pre todo post:List α}:((pre++(todo++post)).drop pre.length).take todo.length=todo:=by rw[List.drop_left,List.take_left]
attribute [local irreducible] SStep DW DWin DOps zaG zaE zaJ retQ zaN FnF FnG FnI FnM Wk IntKind.wrap IntKind.andI IntKind.orI IntKind.xorI IntKind.andNotI IntKind.shlI IntKind.shrI Net.wrong onA onV Frame.wrong zaQ zbc goS zbw zcG za2 mix bkT
set_option maxHeartbeats 8000000 in
theorem zp3 (n:Net) (ht:n.typed) (h0:n.wrong.1≠0) (t:List (List Mind)) (bs:List (List Ent)) (frm vid:Int) (f:Frame):FnF Tryz.prog 22 [n.v,zaO t,.slice (bs.map za8),.int .i64 frm,.int .i64 vid,f.v] (Sent.v ⟨[],[],false,n.wrong⟩):=by
 refine zal Tryz.func22 rfl rfl rfl ?_
 simp only[zap,zaO]
 have hon:=zhv n ht t (fun h=>absurd h h0) []
 rw[show onA n t []=(none,n.wrong) by with_unfolding_all exact if_pos h0,show onV (none,n.wrong) = .tuple [Net.v ⟨[],[]⟩,zaO [],zb1 n.wrong] by with_unfolding_all rfl]at hon
 have h0m:¬n.wrong.1=0:=h0
 clear h0
 generalize n.wrong=w at hon h0m ⊢
 obtain⟨e,i⟩:=w
 simp only at h0m
 repeat' (first|refine qU ?_|refine qW ?_|((first|apply dX rfl|apply Da rfl rfl|apply Db rfl rfl qN);(focus ((try intro hg);first|exact zac hon rfl|exact qMo));constructor)|refine qP ?_)
 refine retN (.tmp rfl qF (.tmp rfl qF (.tmp rfl qF (.cellA inferInstance rfl rfl rfl rfl qF .nil)))) ?_
 rfl
set_option maxHeartbeats 8000000 in
theorem zp4 (n:Net) (ht:n.typed) (h0:n.wrong.1=0) (bs:List (List Ent)) (frm vid:Int) (f:Frame):FnF Tryz.prog 22 [n.v,zaO [],.slice (bs.map za8),.int .i64 frm,.int .i64 vid,f.v] (Sent.v (zbU 8)):=by
 refine zal Tryz.func22 rfl rfl rfl ?_
 simp only[zap,zaO]
 have hon:=zm0 n ht h0 []
 rw[show onV (none,(8,0)) = .tuple [Net.v ⟨[],[]⟩,zaO [],zb1 (8,0)] by with_unfolding_all rfl]at hon
 repeat' (first|refine qU ?_|refine qW ?_|((first|apply dX rfl|apply Da rfl rfl|apply Db rfl rfl qN);(focus ((try intro hg);first|exact zac hon rfl|exact qMo));constructor)|refine qP ?_)
 refine retN (.tmp rfl qF (.tmp rfl qF (.tmp rfl qF (.cellA inferInstance rfl rfl rfl rfl qF .nil)))) ?_
 rfl
set_option maxRecDepth 8000 in
set_option maxHeartbeats 16000000 in
theorem zp5 (n:Net) (ht:n.typed) (h0:n.wrong.1=0) (t:List (List Mind)) (htt:goodT n t) (h1:1≤t.length) (bs0:List (List Ent)) (hbl:bs0.length≤1048576) (hbe:∀ l∈bs0,l.length≤1048576) (frm vid:Int) (f:Frame) (hf:f.ok) :
  FnF Tryz.prog 22 [n.v,zaO t,.slice (bs0.map za8),.int .i64 frm,.int .i64 vid,f.v] (zjl n t bs0 frm vid f).v:=by
 refine zal Tryz.func22 rfl rfl rfl ?_
 simp only[zap,zaO]
 have hg:=((Net.wrong_iff ht).1 h0).1
 have hon:=zhv n ht t (fun _=>⟨htt,h1⟩) []
 rw[ztp h0,show onV (some (n,t),(0,0)) = .tuple [n.v,zaO t,zb1 (0,0)] by with_unfolding_all rfl]at hon
 have hmb:(bs0.map za8).length=bs0.length:=by simp
 have hmn:(n.bridges.map zaj).length=n.bridges.length:=by simp
 have hmt:(t.map zae).length=t.length:=by simp
 have hnb:=hg.nb
 have htl:=htt.l
 have hfw:=zg7 f hf
 unfold zjl
 by_cases c1:bs0.length≠n.bridges.length
 ·have c1':¬bs0.length=n.bridges.length:=c1
  rw[if_pos c1]
  repeat' (first|refine qU ?_|refine qW ?_|((first|apply dX rfl|apply Da rfl rfl|apply Db rfl rfl qN);(focus ((try intro hg);first|exact zac hon rfl|exact zaq rfl rfl (zdM 8)|exact qMo));constructor)|refine qP ?_)
  refine retN (.tmp rfl qF (.tmp rfl qF (.tmp rfl qF (.cellA inferInstance rfl rfl rfl rfl qF .nil)))) ?_
  rfl
 rw[if_neg c1]
 have c1:bs0.length=n.bridges.length:=Decidable.not_not.1 c1
 by_cases c2:frm<0∨(n.bridges.length:Int)≤frm
 ·rw[if_pos c2]
  by_cases c2a:frm<0
  ·repeat' (first|refine qU ?_|refine qW ?_|((first|apply dX rfl|apply Da rfl rfl|apply Db rfl rfl qN);(focus ((try intro hg);first|exact zac hon rfl|exact zaq rfl rfl (zdM 6)|exact qMo));constructor)|refine qP ?_)
   refine retN (.tmp rfl qF (.tmp rfl qF (.tmp rfl qF (.cellA inferInstance rfl rfl rfl rfl qF .nil)))) ?_
   rfl
  ·repeat' (first|refine qU ?_|refine qW ?_|((first|apply dX rfl|apply Da rfl rfl|apply Db rfl rfl qN);(focus ((try intro hg);first|exact zac hon rfl|exact zaq rfl rfl (zdM 6)|exact qMo));constructor)|refine qP ?_)
   refine retN (.tmp rfl qF (.tmp rfl qF (.tmp rfl qF (.cellA inferInstance rfl rfl rfl rfl qF .nil)))) ?_
   rfl
 rw[if_neg c2]
 by_cases c3:vid<1∨4094<vid
 ·rw[if_pos c3]
  by_cases c3a:vid<1
  ·repeat' (first|refine qU ?_|refine qW ?_|((first|apply dX rfl|apply Da rfl rfl|apply Db rfl rfl qN);(focus ((try intro hg);first|exact zac hon rfl|exact zaq rfl rfl (zdM 3)|exact qMo));constructor)|refine qP ?_)
   refine retN (.tmp rfl qF (.tmp rfl qF (.tmp rfl qF (.cellA inferInstance rfl rfl rfl rfl qF .nil)))) ?_
   rfl
  ·repeat' (first|refine qU ?_|refine qW ?_|((first|apply dX rfl|apply Da rfl rfl|apply Db rfl rfl qN);(focus ((try intro hg);first|exact zac hon rfl|exact zaq rfl rfl (zdM 3)|exact qMo));constructor)|refine qP ?_)
   refine retN (.tmp rfl qF (.tmp rfl qF (.tmp rfl qF (.cellA inferInstance rfl rfl rfl rfl qF .nil)))) ?_
   rfl
 rw[if_neg c3]
 cases c4:f.tagged with
 | true =>
  rw[if_pos rfl]
  obtain⟨f1,f2,f3,f4,f5,f6,f7,f8⟩:=f
  simp only at c4
  subst c4
  repeat' (first|refine qU ?_|refine qW ?_|((first|apply dX rfl|apply Da rfl rfl|apply Db rfl rfl qN);(focus ((try intro hg);first|exact zac hon rfl|exact zaq rfl rfl (zdM 1)|exact qMo));constructor)|refine qP ?_)
  refine retN (.tmp rfl qF (.tmp rfl qF (.tmp rfl qF (.cellA inferInstance rfl rfl rfl rfl qF .nil)))) ?_
  rfl
 | false =>
 rw[if_neg (by decide)]
 obtain⟨f1,f2,f3,f4,f5,f6,f7,f8⟩:=f
 simp only at c4
 subst c4
 generalize hff:(⟨f1,f2,false,f4,f5,f6,f7,f8⟩:Frame)=f at hf hfw ⊢
 have hfc:Frame.cells ⟨f1,f2,false,f4,f5,f6,f7,f8⟩=f.cells:=by rw[hff]
 by_cases c5:f.wrong≠0
 ·rw[if_pos c5]
  have c5':¬f.wrong=0:=c5
  subst hff
  generalize Frame.wrong _=e at hfw c5' ⊢
  repeat' (first|refine qU ?_|refine qW ?_|((first|apply dX rfl|apply Da rfl rfl|apply Db rfl rfl qN);(focus ((try intro hg);first|exact zac hon rfl|exact zac hfw rfl|exact zaq rfl rfl (zdM e)|exact qMo));constructor)|refine qP ?_)
  refine retN (.tmp rfl qF (.tmp rfl qF (.tmp rfl qF (.cellA inferInstance rfl rfl rfl rfl qF .nil)))) ?_
  rfl
 rw[if_neg c5]
 have c5:f.wrong=0:=Decidable.not_not.1 c5
 rw[c5]at hfw
 subst hff
 repeat' (first|refine qU ?_|refine qW ?_|((first|apply dX rfl|apply Da rfl rfl|apply Db rfl rfl qN);(focus ((try intro hg);first|exact zac hon rfl|exact zac hfw rfl|exact qMo));constructor)|refine qP ?_)
 generalize hff:(⟨f1,f2,false,f4,f5,f6,f7,f8⟩:Frame)=f at hf
 refine zag (fun k:Nat=>⟨[(3,.dat false (.int .i64 frm)),(4,.dat false (.int .i64 vid)),(6,.ptr 6 0),(7,.ptr 7 0),(11,.ptr 11 0),(15,.ptr 15 0),(16,.dat true (.fn 61 [])),(2,.dat false (.slice (bs0.map za8))),(109,.dat false (.slice (n.bridges.map zaj))),(110,.dat true (.int .i64 (n.bridges.map zaj).length)),(111,.dat true (.int .i64 k))],[(6,.cells false true (n.cells.map (.dat false))),(7,.cells false true [.dat true (.slice (t.map zae))]),(11,.cells false true (f.cells.map (.dat false))),(15,.cells false true [.dat true (.int .i64 0),.dat true (.int .i64 0)])],234⟩)
  (fun k=>k≤n.bridges.length∧n.bridges.any (fun b=>decide ((t.length:Int)≤za2 b.region.ways vid))=(n.bridges.drop k).any (fun b=>decide ((t.length:Int)≤za2 b.region.ways vid))) (fun k=>n.bridges.length-k) 0 ⟨Nat.zero_le _,rfl⟩ (by subst hff;exact Wk_g some rfl rfl kqp) (fun k hR=>?_)
 obtain⟨hk,hany⟩:=hR
 by_cases hlt:k<n.bridges.length
 ·have hx:n.bridges[(k:Int).toNat]? = some n.bridges[k]:=by simp[hlt]
  rw[List.drop_eq_getElem_cons hlt,List.any_cons]at hany
  have hbo:=hg.br n.bridges[k] (List.getElem_mem hlt)
  generalize n.bridges[k]=b at hx hany hbo
  have htr:=zgP b.region vid hbo.r (by omega)
  by_cases hbad:(t.length:Int)≤za2 b.region.ways vid
  ·rw[decide_eq_true hbad,Bool.true_or]at hany
   rw[hany,if_pos rfl]
   generalize za2 b.region.ways vid=tr at htr hbad
   repeat' (first|refine qU ?_|refine qW ?_|((first|apply dX rfl|apply Da rfl rfl|apply Db rfl rfl qN);(focus ((try intro hg);first|exact zaf rfl rfl (by omega) hx|exact zac htr rfl|exact zaq rfl rfl (zdM 5)|exact qMo));constructor)|refine qP ?_)
   refine retN (.tmp rfl qF (.tmp rfl qF (.tmp rfl qF (.cellA inferInstance rfl rfl rfl rfl qF .nil)))) ?_
   rfl
  ·rw[decide_eq_false hbad,Bool.false_or]at hany
   generalize za2 b.region.ways vid=tr at htr hbad
   repeat' (first|refine qU ?_|refine qW ?_|((first|apply dX rfl|apply Da rfl rfl|apply Db rfl rfl qN);(focus ((try intro hg);first|exact zaf rfl rfl (by omega) hx|exact zac htr rfl|exact qMo));constructor)|refine qP ?_)
   exact zaa (k+1) ⟨hlt,hany⟩ (by omega) (Wk_g some rfl rfl kqp)
 rw[List.drop_eq_nil_of_le (by omega),List.any_nil]at hany
 rw[hany,if_neg (by decide)]
 clear hany
 have hcb:=zlT bs0 (by omega)
 repeat' (first|refine zcY 131 (bx := .row 1 false false 1 (bs0.map za8)) rfl ?_|refine qU ?_|refine qW ?_|(apply dt rfl;case h=>first|exact zaB 131 hcb rfl rfl (.own _ _))|((first|apply dX rfl|apply Da rfl rfl|apply Db rfl rfl qN);(focus ((try intro hg);first|exact zaB 131 hcb rfl rfl (.own _ _)|exact qMo));constructor)|refine qP ?_)
 intro _
 have hbne:bs0≠[]:=fun e=>by rw[e]at c1;simp at c1;omega
 refine zeY 131 rfl (by decide) (by simpa using hbne) ?_
 rw[zp2]
 refine zaZ (s':=⟨[(3,.dat false (.int .i64 frm)),(4,.dat false (.int .i64 vid)),(6,.ptr 6 0),(7,.ptr 7 0),(11,.ptr 11 0),(15,.ptr 15 0),(16,.dat true (.fn 61 [])),(2,.sl 131 bs0.length)],[(6,.cells false true (n.cells.map (.dat false))),(7,.cells false true [.dat true (.slice (t.map zae))]),(11,.cells false true (f.cells.map (.dat false))),(15,.cells false true [.dat true (.int .i64 0),.dat true (.int .i64 0)]),(131,.cells false true ((bkT false bs0).map bkP))],234⟩) (Wk_g some rfl rfl kqp) ?_
 have hxl:(bkT true bs0).length=(bkT false bs0).length:=by rw[zhw,zhw]
 repeat' (first|refine qU ?_|((first|apply dX rfl|apply Da rfl rfl|apply Db rfl rfl qN);(focus ((try intro hg);first|exact zbQ rfl|exact qM));constructor)|refine qP ?_)
 refine zag (fun i:Nat=>⟨[(3,.dat false (.int .i64 frm)),(4,.dat false (.int .i64 vid)),(6,.ptr 6 0),(7,.ptr 7 0),(11,.ptr 11 0),(15,.ptr 15 0),(16,.dat true (.fn 61 [])),(2,.sl 131 bs0.length),(132,.sl 131 bs0.length),(133,.dat true (.int .i64 bs0.length)),(134,.dat true (.int .i64 i))],[(6,.cells false true (n.cells.map (.dat false))),(7,.cells false true [.dat true (.slice (t.map zae))]),(11,.cells false true (f.cells.map (.dat false))),(15,.cells false true [.dat true (.int .i64 0),.dat true (.int .i64 0)]),(131,.cells false true ((mix (bkT true bs0) (bkT false bs0) i).map bkP))],234⟩)
  (fun i=>i≤bs0.length) (fun i=>bs0.length-i) 0 (Nat.zero_le _) (by rw[zgo];exact Wk_g some rfl rfl kqp) (fun i hi=>?_)
 by_cases hli:i<bs0.length
 ·have hy:bs0[i]? = some bs0[i]:=by simp[hli]
  have hce:=hbe _ (List.getElem_mem hli)
  generalize bs0[i]=l at hy hce
  have hcl:=zlU l hce
  have hml:(mix (bkT true bs0) (bkT false bs0) i).length=bs0.length:=by rw[zsW hxl,zhw]
  have hgt:((mix (bkT true bs0) (bkT false bs0) i).map bkP)[(i:Int).toNat*1]? = some (.dat false (.slice (l.map entV))):=by
   rw[Int.toNat_natCast,Nat.mul_one,List.getElem?_map,zje hxl,zjF hy];rfl
  have hst:(mix (bkT true bs0) (bkT false bs0) i).set ((i:Int).toNat*1) (true,l)=mix (bkT true bs0) (bkT false bs0) (i+1):=by
   rw[Int.toNat_natCast,Nat.mul_one];exact zjf hxl (zjF hy)
  repeat' (first|refine qU ?_|refine qW ?_|((first|apply dX rfl|apply Da rfl rfl|apply Db rfl rfl qN);(focus ((try intro hg);first|exact zdE rfl rfl (by omega) (by omega)|exact zaI rfl rfl hgt|exact zac hcl rfl|exact ziY (f:=bkP) (a:=(true,l)) rfl rfl rfl rfl (by rw[hml,Int.toNat_natCast,Nat.mul_one];exact hli)|exact qMo));constructor)|refine qP ?_)
  refine zaa (i+1) hli (by omega) ?_
  rw[hst]
  exact Wk_g some rfl rfl kqp
 rw[zjd hxl (by rw[zhw];omega)]
 repeat' (first|(apply dt rfl;case h=>exact zb8 (els := [zbO ⟨frm,0,f⟩]) 148 (by subst hff;rfl) rfl rfl rfl rfl)|refine qU ?_|refine qW ?_|((first|apply dX rfl|apply Da rfl rfl|apply Db rfl rfl qN);(focus ((try intro hg);first|exact qMo));constructor)|refine qP ?_)
 refine zag (fun q:Nat×(List Come×List Come×List Come)×List OutF×List (List Ent)=>⟨[(3,.dat false (.int .i64 frm)),(4,.dat false (.int .i64 vid)),(6,.ptr 6 0),(7,.ptr 7 0),(11,.ptr 11 0),(15,.ptr 15 0),(16,.dat true (.fn 61 [])),(2,.sl 131 q.2.2.2.length),(24,.own 900 0 0 q.2.2.1.length),(25,.own 148 0 q.2.1.1.length q.2.1.2.1.length),(26,.dat true (.int .i64 q.1))],
   [(6,.cells false true (n.cells.map (.dat false))),(7,.cells false true [.dat true (.slice (t.map zae))]),(11,.cells false true (f.cells.map (.dat false))),(15,.cells false true [.dat true (.int .i64 0),.dat true (.int .i64 0)]),(131,.cells false true ((bkT true q.2.2.2).map bkP)),(148,.row 0 false false 10 ((q.2.1.1++(q.2.1.2.1++q.2.1.2.2)).map zbO)),(900,.row 0 false true 9 (q.2.2.1.map outV))],234⟩)
  (fun q=>q.1≤41∧(∀ c∈q.2.1.2.1,c.ok n)∧q.2.2.2.length=n.bridges.length∧q.2.1.2.1.length≤1+81*q.1∧q.2.2.1.length≤81*q.1∧goS n t vid 41 [⟨frm,0,f⟩] [] bs0=goS n t vid (41-q.1) q.2.1.2.1 q.2.2.1 q.2.2.2) (fun q=>41-q.1) (0,([],[⟨frm,0,f⟩],[]),[],bs0)
  ⟨Nat.zero_le _,fun c hc=>by rw[List.mem_singleton.1 hc];exact⟨by simp only;omega,by simp only;omega,hf⟩,c1,Nat.le_refl _,Nat.le_refl _,rfl⟩
  (zfR (fun g=>if g=900 then none else some g) rfl rfl kqp kqp) (fun q hR=>?_)
 obtain⟨s,⟨pre,todo,post⟩,seen,bs⟩:=q
 obtain⟨hs,hco,hbn,htd,hsn,hgo⟩:=hR
 simp only at hs hco hbn htd hsn hgo
 dsimp only
 rw[hgo]
 cases todo with
 | nil =>
  rw[show goS n t vid (41-s) [] seen bs=⟨seen,bs,true,(0,0)⟩ by with_unfolding_all (cases 41-s<;>rfl)]
  refine zaD 131 (fun _ _ _ h=>by cases h) ?_
  refine zi9 2 (.dat true (.slice (bs.map za8))) (fun C v hm hd=>ztO hm rfl hd) ?_
  refine zaR 24 rfl rfl (by simp) ?_
  repeat' (first|refine qU ?_|refine qW ?_|((first|apply dX rfl|apply Da rfl rfl|apply Db rfl rfl qN);(focus ((try intro hg);first|exact qMo));constructor)|refine qP ?_)
  refine retN (.tmp rfl qF (.tmp rfl qF (.tmp rfl qF (.cellA inferInstance rfl rfl rfl rfl qF .nil)))) ?_
  rfl
 | cons c r =>
 by_cases hs41:41≤s
 ·obtain rfl:s=41:=by omega
  rw[show goS n t vid (41-41) (c::r) seen bs=zbU 0 by with_unfolding_all rfl]
  have hlc:(c::r).length=r.length+1:=rfl
  repeat' (first|refine qU ?_|refine qW ?_|((first|apply dX rfl|apply Da rfl rfl|apply Db rfl rfl qN);(focus ((try intro hg);first|exact qMo));constructor)|refine qP ?_)
  refine retN (.tmp rfl qF (.tmp rfl qF (.tmp rfl qF (.cellA inferInstance rfl rfl rfl rfl qF .nil)))) ?_
  rfl
 obtain⟨k,hk⟩:∃ k,41-s=k+1:=⟨40-s,by omega⟩
 rw[hk]at hgo ⊢
 rw[show goS n t vid (k+1) (c::r) seen bs=if(zbP n t vid bs c).2.2≠0 then zbU (zbP n t vid bs c).2.2 else goS n t vid k (r++zbw n c.br (zbP n t vid bs c).1) (seen++zcG c.br (zbP n t vid bs c).1) (bs.set c.br.toNat (zbP n t vid bs c).2.1) by with_unfolding_all rfl]at hgo ⊢
 obtain⟨hc0,hc1,hcf⟩:=hco c (by simp)
 have hcx:((pre++(c::r++post)).map zbO)[pre.length+(0:Int).toNat]? = some (zbO c):=by
  rw[show pre.length+(0:Int).toNat=pre.length from rfl,List.getElem?_map,List.getElem?_append_right (Nat.le_refl _),Nat.sub_self];rfl
 have hlc:(c::r).length=r.length+1:=rfl
 obtain⟨b,hb⟩:∃ b,n.bridges[c.br.toNat]? = some b:=⟨_,List.getElem?_eq_getElem (by omega)⟩
 obtain⟨bk,hbk⟩:∃ bk,bs[c.br.toNat]? = some bk:=⟨_,List.getElem?_eq_getElem (by omega)⟩
 have hbm:=List.mem_of_getElem? hb
 have hrl:=zlY (zfg n c.br) (zbc n t c.br vid) (zdj bs c.br) c.port c.f (by rw[zgr hb];exact ht.wy b hbm) hcf
 have hok:=zl1 (r:=zfg n c.br) (gs:=zbc n t c.br vid) (l:=zdj bs c.br) (port:=c.port) hcf
 have hol:=ziz (zfg n c.br) (zbc n t c.br vid) (zdj bs c.br) c.port c.f
 have hgl:=zk7 hg t c.br vid
 have hgt:=zpz n hg t htt c.br vid
 rw[show zbP n t vid bs c=zaQ (zfg n c.br) (zbc n t c.br vid) (zdj bs c.br) c.port c.f from rfl]at hgo ⊢
 generalize zaQ (zfg n c.br) (zbc n t c.br vid) (zdj bs c.br) c.port c.f=res at hrl hok hol hgo ⊢
 rw[zgr hb,zkJ hbk]at hrl
 generalize zbc n t c.br vid=gs at hrl hol hgl hgt
 obtain⟨outs,nbk,err⟩:=res
 simp only at hrl hok hol hgo ⊢
 have hbp:((bkT true bs).map bkP)[c.br.toNat*1]? = some (.dat true (.slice (bk.map entV))):=by rw[Nat.mul_one,List.getElem?_map,zjF hbk];rfl
 have hbs:(bkT true bs).set (c.br.toNat*1) (true,nbk)=bkT true (bs.set c.br.toNat nbk):=by rw[Nat.mul_one];exact zto ..
 have hbtl:=zhw true bs
 repeat' (first|refine zcY 27 (bx := .cells false true ((zbO c).map (.dat false))) rfl ?_|refine qU ?_|refine qW ?_|((first|apply dX rfl|apply Da rfl rfl|apply Db rfl rfl qN);(focus ((try intro hg);first|exact ziK rfl rfl rfl (by omega) (by omega)|exact zbn rfl rfl hcx rfl|exact qMo));constructor)|refine qP ?_)
 intro _
 refine zoj ?_
 refine zdy (l1 := [_]) (l2 := [_]) rfl ?_
 repeat' (first|refine qU ?_|refine qW ?_|((first|apply dX rfl|apply Da rfl rfl|apply Db rfl rfl qN);(focus ((try intro hg);first|exact qMo));constructor)|refine qP ?_)
 refine dnil ⟨_,rfl,zsi rfl rfl (.some _ _ _ _ 1 rfl) (by omega),fun d wr hF=>?_⟩
 obtain⟨l,hl,rfl,rfl⟩:=hF
 obtain ⟨pre1,post1,hrow,hpl⟩:∃ pre1 post1,pre++(c::r++post)=pre1++(r++post1)∧l=pre1.length:=by
  rcases hl with rfl|⟨rfl,h⟩
  ·exact⟨pre++[c],post,by simp,by simp⟩
  ·obtain rfl:r=[]:=List.length_eq_zero_iff.1 (by omega)
   exact⟨pre,c::post,by simp,rfl⟩
 subst hpl
 dsimp only[St.put]
 rw[hrow,show(c::r).length-1=r.length from rfl]
 clear hrow hl hcx
 by_cases he:err≠0
 ·rw[if_pos he]
  have he':¬err=0:=he
  repeat' (first|refine qU ?_|refine qW ?_|((first|apply dX rfl|apply Da rfl rfl|apply Db rfl rfl qN);(focus ((try intro hg);first|exact zaf rfl rfl (by omega) hb|exact zac hgt rfl|exact zdE rfl rfl (by omega) (by omega)|exact zaI rfl rfl hbp|exact zac hrl rfl|exact zaq rfl rfl (zdM err)|exact qMo));constructor)|refine qP ?_)
  refine retN (.tmp rfl qF (.tmp rfl qF (.tmp rfl qF (.cellA inferInstance rfl rfl rfl rfl qF .nil)))) ?_
  rfl
 rw[if_neg he]at hgo ⊢
 obtain rfl:err=0:=Decidable.not_not.1 he
 clear he
 repeat' (first|refine qU ?_|refine qW ?_|((first|apply dX rfl|apply Da rfl rfl|apply Db rfl rfl qN);(focus ((try intro hg);first|exact zaf rfl rfl (by omega) hb|exact zac hgt rfl|exact zdE rfl rfl (by omega) (by omega)|exact zaI rfl rfl hbp|exact zac hrl rfl|exact ziY (f:=bkP) (a:=(true,nbk)) rfl rfl rfl rfl (by omega)|exact qMo));constructor)|refine qP ?_)
 have hmo:(outs.map outV).length=outs.length:=by simp
 have hc00:zbw n c.br []=[]:=by with_unfolding_all rfl
 have hs00:zcG c.br []=[]:=by with_unfolding_all rfl
 refine zag (fun q:Nat×(List Come×List Come×List Come)×List OutF=>⟨[(3,.dat false (.int .i64 frm)),(4,.dat false (.int .i64 vid)),(6,.ptr 6 0),(7,.ptr 7 0),(11,.ptr 11 0),(15,.ptr 15 0),(16,.dat true (.fn 61 [])),(2,.sl 131 bs.length),(24,.own 900 0 0 q.2.2.length),(25,.own 148 0 q.2.1.1.length q.2.1.2.1.length),(26,.dat true (.int .i64 s)),(27,.ptr 27 0),(201,.dat true (.slice (outs.map outV))),(202,.dat true (.int .i64 (outs.map outV).length)),(203,.dat true (.int .i64 q.1))],
   [(6,.cells false true (n.cells.map (.dat false))),(7,.cells false true [.dat true (.slice (t.map zae))]),(11,.cells false true (f.cells.map (.dat false))),(15,.cells false true [.dat true (.int .i64 0),.dat true (.int .i64 0)]),(27,.cells false true ((zbO c).map (.dat false))),(131,.cells false true ((bkT true (bs.set c.br.toNat nbk)).map bkP)),(148,.row 0 false false 10 ((q.2.1.1++(q.2.1.2.1++q.2.1.2.2)).map zbO)),(900,.row 0 false true 9 (q.2.2.map outV))],234⟩)
  (fun q=>q.1≤outs.length∧q.2.1.2.1=r++zbw n c.br (outs.take q.1)∧q.2.2=seen++zcG c.br (outs.take q.1)) (fun q=>outs.length-q.1) (0,(pre1,r,post1),seen) ⟨Nat.zero_le _,by simp[hc00],by simp[hs00]⟩
  (by rw[hbs];exact Wk_g some rfl rfl kqp) (fun q hR=>?_)
 obtain⟨j,⟨pre2,todo,post2⟩,sn⟩:=q
 obtain⟨hj,htd2,hsn2⟩:=hR
 simp only at hj htd2 hsn2
 dsimp only
 have htl2:todo.length≤81*s+81:=by
  rw[htd2,List.length_append]
  have:=zhe n c.br (outs.take j)
  have:=List.length_take_le j outs
  omega
 have hsl2:sn.length≤81*s+81:=by
  rw[hsn2,List.length_append]
  have:=ziq c.br (outs.take j)
  have:=List.length_take_le j outs
  omega
 by_cases hlj:j<outs.length
 ·have ho0:outs[j]? = some outs[j]:=by simp[hlj]
  have ho:outs[(j:Int).toNat]? = some outs[j]:=by simp[hlj]
  have hct:=zfZ (n:=n) (b:=c.br) ho0
  have hst:=zhd (b:=c.br) ho0
  generalize outs[j]=o at ho hct hst
  obtain⟨p,g⟩:=o
  simp only at hct hst
  by_cases hp0:p=0
  ·rw[if_pos hp0,List.append_nil]at hct
   rw[if_pos hp0]at hst
   repeat' (first|refine qU ?_|refine qW ?_|((first|apply dX rfl|apply Da rfl rfl|apply Db rfl rfl qN);(focus ((try intro hg);first|exact zaf rfl rfl (by omega) ho|exact zan (f:=outV) (us:=sn) (bs := [(c.br,g)]) rfl rfl (.dat _ _) rfl rfl (.inl rfl) rfl (by simp only[List.length_singleton];omega)|exact qMo));constructor)|refine qP ?_)
   exact zaa (j+1,(pre2,todo,post2),sn++[(c.br,g)]) ⟨hlj,by rw[hct];exact htd2,by rw[hst,hsn2,List.append_assoc]⟩ (by simp only;omega) (Wk_g some rfl rfl kqp)
  ·rw[if_neg hp0]at hct
   rw[if_neg hp0,List.append_nil]at hst
   have hac:=znK n hg.nl c.br p g
   cases hq:zbT n.links c.br p with
   | none =>
    rw[hq]at hct hac
    simp only[List.append_nil]at hct
    change FnG _ _ _ _ (.dat true (.tuple [.agg (zbO .zero),.bool false])) _ at hac
    repeat' (first|refine qU ?_|refine qW ?_|((first|apply dX rfl|apply Da rfl rfl|apply Db rfl rfl qN);(focus ((try intro hg);first|exact zaf rfl rfl (by omega) ho|exact zeb [false,false,true] hac (fun m' hag=>⟨(zbx hag).trans rfl,⟨⟨_,rfl⟩,trivial⟩⟩)|exact qMo));constructor)|refine qP ?_)
    exact zaa (j+1,(pre2,todo,post2),sn) ⟨hlj,by rw[hct];exact htd2,by rw[hst];exact hsn2⟩ (by simp only;omega) (Wk_g some rfl rfl kqp)
   | some q =>
    rw[hq]at hct hac
    simp only at hct
    change FnG _ _ _ _ (.dat true (.tuple [.agg (zbO ⟨q.1,q.2,g⟩),.bool true])) _ at hac
    repeat' (first|refine zrr (d := .dat false (.bool true)) 225 rfl ?_|refine qU ?_|refine qW ?_|((first|apply dX rfl|apply Da rfl rfl|apply Db rfl rfl qN);(focus ((try intro hg);first|exact zaf rfl rfl (by omega) ho|exact zeb [false,false,true] hac (fun m' hag=>⟨(zbx hag).trans rfl,⟨⟨_,rfl⟩,trivial⟩⟩)|exact qMo));constructor)|refine qP ?_)
    intro _
    refine We rfl ?_
    refine zdy (l1 := [_,_,_]) (l2 := [_]) rfl ?_
    repeat' (first|refine qU ?_|refine qW ?_|((first|apply dX rfl|apply Da rfl rfl|apply Db rfl rfl qN);(focus ((try intro hg);first|exact qMo));constructor)|refine qP ?_)
    refine dnil ⟨_,rfl,zpD (f:=zbO) (us:=pre2++(todo++post2)) (bs := [⟨q.1,q.2,g⟩]) rfl rfl rfl rfl (Nat.ble_eq_true_of_le (by simp only[List.length_append];omega)) (by simp) (.inl rfl) rfl (by simp only[List.length_singleton];omega),fun d wr hF=>?_⟩
    obtain⟨pre3,_,rfl,rfl⟩:=hF
    dsimp only[St.put]
    rw[zjG]
    repeat' (first|refine qU ?_|refine qW ?_|((first|apply dX rfl|apply Da rfl rfl|apply Db rfl rfl qN);(focus ((try intro hg);first|exact qMo));constructor)|refine qP ?_)
    exact zaa (j+1,(pre3,todo++[⟨q.1,q.2,g⟩],[]),sn) ⟨hlj,by rw[hct,htd2,List.append_assoc],by rw[hst];exact hsn2⟩ (by simp only;omega) (by dsimp only;rw[show pre3++((todo++[(⟨q.1,q.2,g⟩:Come)])++[])=pre3++todo++[⟨q.1,q.2,g⟩] by simp,List.length_append];exact Wk_g some rfl rfl kqp)
 ·rw[List.take_of_length_le (by omega)]at htd2 hsn2
  repeat' (first|refine qU ?_|refine qW ?_|((first|apply dX rfl|apply Da rfl rfl|apply Db rfl rfl qN);(focus ((try intro hg);first|exact qMo));constructor)|refine qP ?_)
  refine zaa (s+1,(pre2,todo,post2),sn,bs.set c.br.toNat nbk) ⟨by simp only;omega,fun x hx=>?_,by rw[List.length_set];exact hbn,by simp only;omega,by simp only;omega,?_⟩ (by simp only;omega) (by dsimp only;rw[List.length_set];exact Wk_g some rfl rfl kqp)
  ·simp only at hx
   rw[htd2]at hx
   rcases List.mem_append.1 hx with hx|hx
   ·exact hco x (by simp[hx])
   ·exact zfG hg hok x hx
  ·simp only
   rw[htd2,hsn2,show 41-(s+1)=k by omega]
end Go.Proofs.YtcdhlofhhcgohaaGreat
