/- Law: TalkOpens. -/
import Derived.Test.YtcdhlofhhcgohaaGreatxdTlw
import Derived.Test.YtcdhlofhhcgohaaGreatxcPlQ
import Derived.Test.YtcdhlofhhcgohaaGreatxdPlS
import Derived.Test.YtcdhlofhhcgohaaGreatxdPlN
import Derived.Test.YtcdhlofhhcgohaaGreatxbLnd
import Derived.Test.YtcdhlofhhcgohaaGreatxbNst
import Derived.Test.YtcdhlofhhcgohaaGreatxcSrt
import Derived.Test.YtcdhlofhhcgohaaGreatxdTlq
import Derived.Test.YtcdhlofhhcgohaaGreatxcPlP
namespace Go.Proofs.YtcdhlofhhcgohaaGreat
open Go.RowKit
theorem startA_cases (n:Net) (trees:Int):((startA n trees).2.1≠0∧(startA n trees).1=[])∨(n.wrong.1=0∧1≤trees∧trees≤4∧startA n trees=(start0 n trees.toNat,(0,0))):=by
 unfold startA
 by_cases h0:n.wrong.1≠0
 ·rw[if_pos h0];exact .inl ⟨h0,rfl⟩
 ·rw[if_neg h0]
  by_cases h1:trees<1∨4<trees
  ·rw[if_pos h1];exact .inl ⟨by decide,rfl⟩
  ·rw[if_neg h1];exact .inr ⟨Decidable.not_not.1 h0,by omega,by omega,rfl⟩
theorem playA_cases {n:Net} (ht:n.typed) (trees:Int) (l:List Doing):(∃ f,playA n trees l=(none,f)∧f.1≠0)∨(n.good∧n.wrong.1=0∧1≤trees∧trees≤4∧l.length≤30∧∃ r,onLoop 0 l n (start0 n trees.toNat)=(some r,(0,0))∧playA n trees l=(some r,(0,0))):=by
 unfold playA
 rcases startA_cases n trees with⟨h1,_⟩|⟨h0,h1,h2,he⟩
 ·rw[if_pos h1];exact .inl ⟨_,rfl,h1⟩
 ·rw [he]
  simp only[ne_eq,not_true_eq_false,if_false]
  unfold onA
  rw[if_neg (by omega)]
  by_cases hl:30<l.length
  ·rw[if_pos hl];exact .inl ⟨_,rfl,by decide⟩
  ·rw[if_neg hl]
   have hg:=((Net.wrong_iff ht).1 h0).1
   have key:=onLoop_good l 0 n (start0 n trees.toNat) hg (start0_good (by omega))
   have bad:=onLoop_bad l 0 n (start0 n trees.toNat)
   generalize onLoop 0 l n (start0 n trees.toNat)=r at key bad
   obtain⟨r,f⟩:=r
   cases r with
   | none=>exact .inl ⟨f,rfl,bad rfl⟩
   | some r =>
    have:=(key r rfl).2.2.2.2
    simp only at this
    subst this
    exact .inr ⟨hg,h0,h1,h2,by omega,r,rfl,rfl⟩
theorem net_typed {n m:Net} (ht:n.typed) (k:Kin n m):m.typed where
 ad b hb:=by
  obtain⟨i,hi,hx⟩:=List.mem_iff_getElem.1 hb
  have e:(m.bridges.map keyB)[i]? = some (keyB b):=by rw[List.getElem?_map,List.getElem?_eq_getElem hi,hx];rfl
  rw[k.br,List.getElem?_map]at e
  obtain⟨c,hc,he⟩:=Option.map_eq_some_iff.1 e
  have:=ht.ad c (List.mem_of_getElem? hc)
  unfold keyB at he
  injection he with he1 he2
  omega
 wy b hb:=by
  obtain⟨i,hi,hx⟩:=List.mem_iff_getElem.1 hb
  have e:(m.bridges.map keyB)[i]? = some (keyB b):=by rw[List.getElem?_map,List.getElem?_eq_getElem hi,hx];rfl
  rw[k.br,List.getElem?_map]at e
  obtain⟨c,hc,he⟩:=Option.map_eq_some_iff.1 e
  have:=ht.wy c (List.mem_of_getElem? hc)
  unfold keyB at he
  injection he with he1 he2
  rw[←he2];exact this
theorem wrong_kin {n m:Net} (ht:n.typed) (h0:n.wrong.1=0) (k:Kin n m) (hg:m.good):m.wrong.1=0:=by
 refine(Net.wrong_iff (net_typed ht k)).2 ⟨hg,fun b hb=>?_⟩
 obtain⟨i,hi,hx⟩:=List.mem_iff_getElem.1 hb
 have e:(m.bridges.map keyB)[i]? = some (keyB b):=by rw[List.getElem?_map,List.getElem?_eq_getElem hi,hx];rfl
 rw[k.br,List.getElem?_map]at e
 obtain⟨c,hc,he⟩:=Option.map_eq_some_iff.1 e
 have:=((Net.wrong_iff ht).1 h0).2 c (List.mem_of_getElem? hc)
 unfold keyB at he
 injection he with he1 he2
 rw[←he2];exact this
attribute [local irreducible] SStep DW DWin DOps thenQ inBlk loopQ retQ retQG FnF FnG FnI FnM Wk IntKind.wrap IntKind.andI IntKind.orI IntKind.xorI IntKind.andNotI IntKind.shlI IntKind.shrI Net.wrong onA startA
set_option maxHeartbeats 4000000 in
theorem talk_Play (n:Net) (ht:n.typed) (trees:Int) (l:List Doing):FnF Tryz.prog 15 [n.v,.int .i64 trees,.slice (l.map Doing.cells)] (onV (playA n trees l)):=by
 refine fnF_of Tryz.func15 rfl rfl rfl ?_
 simp only[envOf]
 have hs:=talk_Start n ht trees
 unfold playA
 rcases startA_cases n trees with⟨h1,h2⟩|⟨h0,h1,h2,he⟩
 ·rw[if_pos h1]
  rw[h2]at hs
  generalize (startA n trees).2=f at hs h1 ⊢
  obtain⟨e,i⟩:=f
  simp only at h1
  repeat' (first|refine qU ?_|refine qW ?_|((first|apply dX rfl|apply Da rfl rfl|apply Db rfl rfl qN);(focus ((try intro hg);first|exact S_call hs rfl|exact qMo));constructor)|refine qP ?_)
  refine retN (.cellA inferInstance rfl rfl rfl rfl qF (.cellA inferInstance rfl rfl rfl rfl qF (.cellA inferInstance rfl rfl rfl rfl qF .nil))) ?_
  rfl
 ·rw[he]at hs ⊢
  have hon:=talk_On n ht (start0 n trees.toNat) (fun _=>⟨start0_good (by omega),by simp[start0];omega⟩) l
  simp only at hs
  simp only[ne_eq,not_true_eq_false,if_false]
  generalize onA n (start0 n trees.toNat) l=r at hon ⊢
  obtain⟨o,f⟩:=r
  cases o with
  | none =>
   repeat' (first|refine qU ?_|refine qW ?_|((first|apply dX rfl|apply Da rfl rfl|apply Db rfl rfl qN);(focus ((try intro hg);first|exact S_call hs rfl|exact S_call hon rfl|exact qMo));constructor)|refine qP ?_)
   refine retN (.cellA inferInstance rfl rfl rfl rfl qF (.cellA inferInstance rfl rfl rfl rfl qF (.cellA inferInstance rfl rfl rfl rfl qF .nil))) ?_
   rfl
  | some p =>
   repeat' (first|refine qU ?_|refine qW ?_|((first|apply dX rfl|apply Da rfl rfl|apply Db rfl rfl qN);(focus ((try intro hg);first|exact S_call hs rfl|exact S_call hon rfl|exact qMo));constructor)|refine qP ?_)
   refine retN (.cellA inferInstance rfl rfl rfl rfl qF (.cellA inferInstance rfl rfl rfl rfl qF (.cellA inferInstance rfl rfl rfl rfl qF .nil))) ?_
   rfl
end Go.Proofs.YtcdhlofhhcgohaaGreat
namespace Go.Proofs.YtcdhlofhhcgohaaGreat
def regR : Region:=⟨[114],0,[]⟩
def brK (i:Nat):Bridge:=⟨10+(i:Int),[],regR⟩
def lkK (i:Nat):Link:=⟨i,2,(i:Int)+1,1,10,true⟩
def lkR (k:Nat):Link:=⟨(k:Int)-1,2,0,1,10,true⟩
def ringLk (k:Nat) (ring:Bool):List Link:=if ring=true∧2<k then [lkR k]else []
def lineN (k:Nat) (ring:Bool):Net:=⟨(List.range k).map brK,(List.range (k-1)).map lkK++ringLk k ring⟩
theorem lineN_len (k:Nat) (ring:Bool):(lineN k ring).bridges.length=k:=by simp[lineN]
theorem lineN_br {k:Nat} {ring:Bool} {b:Bridge} (h:b∈(lineN k ring).bridges):∃ i,i<k∧b=brK i:=by
 obtain⟨i,hi,rfl⟩:=List.mem_map.1 h
 exact⟨i,List.mem_range.1 hi,rfl⟩
theorem lineN_typed (k:Nat) (ring:Bool):(lineN k ring).typed:=⟨fun b hb=>by obtain⟨i,_,rfl⟩:=lineN_br hb;simp only[brK];omega,fun b hb=>by obtain⟨i,_,rfl⟩:=lineN_br hb;exact Nat.zero_le _⟩
theorem lineN_wrongs : ∀ k,k<13→∀ r,(lineN k r).wrong=(0,0):=by decide +kernel
theorem lineN_wrong {k:Nat} (hk:k≤12) (r:Bool):(lineN k r).wrong=(0,0):=lineN_wrongs k (by omega) r
theorem lineN_good {k:Nat} (hk:k≤12) (r:Bool):(lineN k r).good:=((Net.wrong_iff (lineN_typed k r)).1 (by rw[lineN_wrong hk])).1
theorem region_one {n:Net} {r:Region} (h:n.good) (hr:∀ b∈n.bridges,b.region=r):liveL n=n.links.filter (·.up) :=
 liveL_one r hr (fun l hl=>by have hk:=h.lk l hl;have:=hk.a0;have:=hk.a1;have:=hk.b0;have:=hk.b1;omega)
def roleX (ps:List Place) (i:Nat) (p:Int):Int:=match ps[i]? with
 | none=>0
 | some q=>match ixI p q.ports with
  | none=>0
  | some k=>(q.roles[k]?).getD 0
end Go.Proofs.YtcdhlofhhcgohaaGreat
namespace Go.Proofs.YtcdhlofhhcgohaaGreat
open Go.RowKit
attribute [local irreducible] SStep DW DWin DOps thenQ inBlk loopQ retQ retQG FnF FnG FnI FnM Wk IntKind.wrap IntKind.andI IntKind.orI IntKind.xorI IntKind.andNotI IntKind.shlI IntKind.shrI
theorem top_ticks (k:Int):FnF Tryz.prog 32 [.int .i64 k] (.agg (Doing.cells ⟨1,k,0,0⟩)):=by
 refine fnF_of Tryz.func32 rfl rfl rfl ?_
 simp only[envOf]
 repeat' (first|refine qU ?_|((first|apply dX rfl|apply Da rfl rfl|apply Db rfl rfl qN);(focus ((try intro hg);first|exact qM));constructor)|refine qP ?_)
 refine retN (.cellA inferInstance rfl rfl rfl rfl qF .nil) ?_
 rfl
theorem range_brK (i:Nat):(List.range (i+1)).map brK=(List.range i).map brK++[⟨10+(i:Int),[],regR⟩]:=by
 rw[List.range_succ,List.map_append];rfl
theorem range_lkK {i:Nat} (h:0<i):(List.range (i+1-1)).map lkK=(List.range (i-1)).map lkK++[⟨(i:Int)-1,2,(i:Int),1,10,true⟩]:=by
 obtain⟨j,rfl⟩:∃ j,i=j+1:=⟨i-1,by omega⟩
 rw[show j+1+1-1=j+1 by omega,show j+1-1=j by omega,List.range_succ,List.map_append]
 unfold lkK
 simp only[List.map_cons,List.map_nil]
 rw[show(((j+1:Nat):Int))-1=(j:Int) by omega,show(((j+1:Nat):Int))=(j:Int)+1 by omega]
set_option maxHeartbeats 8000000 in
theorem top_line (k:Nat) (hk:k≤12) (ring:Bool):FnF Tryz.prog 43 [.int .i64 k,.bool ring] (lineN k ring).v:=by
 refine fnF_of Tryz.func43 rfl rfl rfl ?_
 simp only[envOf]
 repeat' (first|refine qU ?_|refine qW ?_|((first|apply dX rfl|apply Da rfl rfl|apply Db rfl rfl qN);(focus ((try intro hg);first|exact qMo));constructor)|refine qP ?_)
 refine DW_loop (fun q:Nat×List Bridge×List Link=>⟨[(0,.dat false (.int .i64 k)),(1,.dat false (.bool ring)),(4,.ptr 4 0),(5,.ptr 5 0),(7,.dat false (.int .i64 k)),(8,.dat true (.int .i64 q.1))],[(4,.cells false true [.nil,.nil]),(5,.cells false true [.own 900 0 0 q.2.1.length,.own 901 0 0 q.2.2.length]),(900,.row 0 false true 5 (q.2.1.map bridgeV)),(901,.row 0 false true 6 (q.2.2.map linkV))],47⟩)
  (fun q=>q.1≤k∧q.2.1=(List.range q.1).map brK∧q.2.2=(List.range (q.1-1)).map lkK) (fun q=>k-q.1) (0,[],[]) ⟨Nat.zero_le _,rfl,rfl⟩
  (Wk_g (fun g=>if g=900 then none else if g=901 then none else some g) rfl rfl kq) (fun q hR=>?_)
 obtain⟨i,bs,ls⟩:=q
 obtain⟨hi,hbs,hls⟩:=hR
 simp only at hi hbs hls
 dsimp only
 have hbl:bs.length=i:=by rw[hbs];simp
 have hll:ls.length=i-1:=by rw[hls];simp
 by_cases hlt:i<k
 ·have hb1:=range_brK i
  rw[←hbs]at hb1
  by_cases h0:0<i
  ·have hl1:=range_lkK h0
   rw[←hls]at hl1
   repeat' (first|refine qU ?_|refine qW ?_|((first|apply dX rfl|apply Da rfl rfl|apply Db rfl rfl qN);(focus ((try intro hg);first|exact S_appM (f:=bridgeV) (us:=bs) (bs := [⟨10+(i:Int),[],regR⟩]) rfl rfl (.dat _ _) rfl rfl (.inl rfl) rfl (by simp only[List.length_singleton];omega)|exact S_appM (f:=linkV) (us:=ls) (bs := [⟨(i:Int)-1,2,(i:Int),1,10,true⟩]) rfl rfl (.dat _ _) rfl rfl (.inl rfl) rfl (by simp only[List.length_singleton];omega)|exact qMo));constructor)|refine qP ?_)
   exact loop_again (i+1,bs++[(⟨10+(i:Int),[],regR⟩:Bridge)],ls++[(⟨(i:Int)-1,2,(i:Int),1,10,true⟩:Link)]) ⟨hlt,hb1.symm,hl1.symm⟩ (by simp only;omega) (Wk_g some rfl rfl kqp)
  ·repeat' (first|refine qU ?_|refine qW ?_|((first|apply dX rfl|apply Da rfl rfl|apply Db rfl rfl qN);(focus ((try intro hg);first|exact S_appM (f:=bridgeV) (us:=bs) (bs := [⟨10+(i:Int),[],regR⟩]) rfl rfl (.dat _ _) rfl rfl (.inl rfl) rfl (by simp only[List.length_singleton];omega)|exact qMo));constructor)|refine qP ?_)
   exact loop_again (i+1,bs++[(⟨10+(i:Int),[],regR⟩:Bridge)],ls) ⟨hlt,hb1.symm,by rw[hls,show i=0 by omega];rfl⟩ (by simp only;omega) (Wk_g some rfl rfl kqp)
 ·have hik:i=k:=by omega
  subst hik
  by_cases hr:ring=true∧2<i
  ·obtain⟨hr1,hr2⟩:=hr
   subst hr1
   have hlr:lineN i true=⟨bs,ls++[⟨(i:Int)-1,2,0,1,10,true⟩]⟩:=by
    unfold lineN ringLk
    rw[if_pos ⟨rfl,hr2⟩,hbs,hls];rfl
   repeat' (first|refine DW_mark 901 (bx := .row (0+1) false true 6 ((ls++[(⟨(i:Int)-1,2,0,1,10,true⟩:Link)]).map linkV)) rfl ?_|refine qU ?_|refine qW ?_|((first|apply dX rfl|apply Da rfl rfl|apply Db rfl rfl qN);(focus ((try intro hg);first|exact S_appM (f:=linkV) (us:=ls) (bs := [⟨(i:Int)-1,2,0,1,10,true⟩]) rfl rfl (.dat _ _) rfl rfl (.inl rfl) rfl (by simp only[List.length_singleton];omega)|exact qMo));constructor)|refine qP ?_)
   intro _
   refine DW_weak (s':=⟨[(4,.ptr 4 0),(5,.ptr 5 0)],[(4,.cells false true [.nil,.nil]),(5,.cells false true [.own 900 0 0 bs.length,.own 901 0 0 (ls++[(⟨(i:Int)-1,2,0,1,10,true⟩:Link)]).length]),(900,.row 0 false true 5 (bs.map bridgeV)),(901,.row 0 false true 6 ((ls++[(⟨(i:Int)-1,2,0,1,10,true⟩:Link)]).map linkV))],47⟩) (Wk_g some rfl rfl kqp) ?_
   refine DW_freeze 900 (fun _ _ _ h=>by cases h) ?_
   refine DW_freeze 901 (fun _ _ _ h=>by cases h) ?_
   repeat' (first|refine qU ?_|refine qW ?_|((first|apply dX rfl|apply Da rfl rfl|apply Db rfl rfl qN);(focus ((try intro hg);first|exact qMo));constructor)|refine qP ?_)
   refine retN (.cellA inferInstance rfl rfl rfl rfl qF .nil) ?_
   rw[hlr]
   show V.agg [V.slice (List.take _ (List.drop 0 _)),V.slice (List.take _ (List.drop 0 _))]=_
   rw[List.drop_zero,List.drop_zero,List.take_of_length_le (by simp),List.take_of_length_le (by simp)]
   rfl
  ·have hlr:lineN i ring=⟨bs,ls⟩:=by
    unfold lineN ringLk
    rw[if_neg hr,hbs,hls,List.append_nil]
   cases ring with
   | false =>
    refine DW_weak (s':=⟨[(0,.dat false (.int .i64 i)),(1,.dat false (.bool false)),(4,.ptr 4 0),(5,.ptr 5 0),(7,.dat false (.int .i64 i)),(8,.dat true (.int .i64 i))],[(4,.cells false true [.nil,.nil]),(5,.cells false true [.own 900 0 0 bs.length,.own 901 0 0 ls.length]),(900,.row 0 false true 5 (bs.map bridgeV)),(901,.row 0 false true 6 (ls.map linkV))],47⟩) (Wk_g some rfl rfl kqp) ?_
    refine DW_freeze 900 (fun _ _ _ h=>by cases h) ?_
    refine DW_freeze 901 (fun _ _ _ h=>by cases h) ?_
    repeat' (first|refine qU ?_|refine qW ?_|((first|apply dX rfl|apply Da rfl rfl|apply Db rfl rfl qN);(focus ((try intro hg);first|exact qMo));constructor)|refine qP ?_)
    refine retN (.cellA inferInstance rfl rfl rfl rfl qF .nil) ?_
    rw[hlr]
    show V.agg [V.slice (List.take _ (List.drop 0 _)),V.slice (List.take _ (List.drop 0 _))]=_
    rw[List.drop_zero,List.drop_zero,List.take_of_length_le (by simp),List.take_of_length_le (by simp)]
    rfl
   | true =>
    have h2:¬ 2<i:=fun h=>hr ⟨rfl,h⟩
    refine DW_weak (s':=⟨[(0,.dat false (.int .i64 i)),(1,.dat false (.bool true)),(4,.ptr 4 0),(5,.ptr 5 0),(7,.dat false (.int .i64 i)),(8,.dat true (.int .i64 i))],[(4,.cells false true [.nil,.nil]),(5,.cells false true [.own 900 0 0 bs.length,.own 901 0 0 ls.length]),(900,.row 0 false true 5 (bs.map bridgeV)),(901,.row 0 false true 6 (ls.map linkV))],47⟩) (Wk_g some rfl rfl kqp) ?_
    refine DW_freeze 900 (fun _ _ _ h=>by cases h) ?_
    refine DW_freeze 901 (fun _ _ _ h=>by cases h) ?_
    repeat' (first|refine qU ?_|refine qW ?_|((first|apply dX rfl|apply Da rfl rfl|apply Db rfl rfl qN);(focus ((try intro hg);first|exact qMo));constructor)|refine qP ?_)
    refine retN (.cellA inferInstance rfl rfl rfl rfl qF .nil) ?_
    rw[hlr]
    show V.agg [V.slice (List.take _ (List.drop 0 _)),V.slice (List.take _ (List.drop 0 _))]=_
    rw[List.drop_zero,List.drop_zero,List.take_of_length_le (by simp),List.take_of_length_le (by simp)]
    rfl
end Go.Proofs.YtcdhlofhhcgohaaGreat
namespace Go.Proofs.YtcdhlofhhcgohaaGreat
def upL (n:Net):List Link:=n.links.filter (·.up)
def cz (c:List Int) (i:Nat):Int:=(c[i]?).getD 0
def distB (n:Net) (tree:Int) (r:Nat) (c:List Int):Bool :=
 decide (r<n.bridges.length) && decide (cz c r=0) && (List.range n.bridges.length).all fun i=>decide (0≤cz c i) && ((rawE (upL n) i).all fun e=>decide (cz c i≤cz c e.other.toNat+e.cost)) && (decide (i=r) || (((rawE (upL n) i).any fun e=>decide (cz c i=cz c e.other.toNat+e.cost)) && decide (idN n tree r<idN n tree i)))
structure Dist (n:Net) (tree:Int) (r:Nat) (c:List Int):Prop where
 rb:r<n.bridges.length
 z:cz c r=0
 p:∀ i,i<n.bridges.length→0≤cz c i
 le:∀ i,i<n.bridges.length→∀ e,adjN n i e→cz c i≤cz c e.other.toNat+e.cost
 ex:∀ i,i<n.bridges.length→i≠r→(∃ e,adjN n i e∧cz c i=cz c e.other.toNat+e.cost)∧idN n tree r<idN n tree i
theorem dist_of {n:Net} {reg:Region} (h:n.good) (hr:∀ b∈n.bridges,b.region=reg) {tree:Int} {r:Nat} {c:List Int} (hd:distB n tree r c=true):Dist n tree r c:=by
 unfold distB at hd
 simp only[Bool.and_eq_true,decide_eq_true_eq,List.all_eq_true,List.mem_range,Bool.or_eq_true,List.any_eq_true]at hd
 obtain⟨⟨h1,h2⟩,h3⟩:=hd
 have hl:liveL n=upL n:=region_one h hr
 refine⟨h1,h2,fun i hi=>(h3 i hi).1.1,fun i hi e he=>(h3 i hi).1.2 e (by unfold adjN at he;rw[hl]at he;exact he),fun i hi hne=>?_⟩
 rcases (h3 i hi).2 with h4|⟨⟨e,he,h5⟩,h6⟩
 ·exact absurd h4 hne
 ·exact⟨⟨e,by unfold adjN;rw[hl];exact he,h5⟩,h6⟩
section
variable {n : Net} (h : n.good) {tree : Int} {r : Nat} {c : List Int} (hd : Dist n tree r c)
include h hd
theorem dist_up : ∀ (k i:Nat),i<n.bridges.length→cz c i≤k→leL (sF n tree i).root (sF n tree i).cost (idN n tree r) (cz c i)
 | k,i,hi,hk=>by
  by_cases e:i=r
  ·subst e
   rw[hd.z];exact fin_own h tree hi
  ·obtain⟨⟨e',he,h1⟩,_⟩:=hd.ex i hi e
   have ho:=adj_ok h he
   match k,hk with
   | 0,hk=>have:=hd.p _ ho.2.2.1;simp only[Int.natCast_zero]at hk;omega
   | k+1,hk =>
    have:=dist_up k _ ho.2.2.1 (by omega)
    rw[h1]
    exact leL_trans (fin_le h tree hi he) (leL_add _ this)
theorem dist_lo : ∀ (k i:Nat),i<n.bridges.length→(sF n tree i).cost≤k→idN n tree r≤(sF n tree i).root∧((sF n tree i).root=idN n tree r→cz c i≤(sF n tree i).cost)
 | k,i,hi,hk=>by
  rcases fin_at h tree hi with⟨h1,h2,_⟩|⟨e,he,h1,h2,_⟩
  ·rw[h1,h2]
   by_cases e:i=r
   ·subst e
    rw[hd.z];exact⟨Int.le_refl _,fun _=>Int.le_refl _⟩
   ·have:=(hd.ex i hi e).2
    exact⟨by omega,fun h=>by omega⟩
  ·have ho:=adj_ok h he
   have hc:=fin_cost h tree ho.2.2.1
   match k,hk with
   | 0,hk=>simp only[Int.natCast_zero]at hk;omega
   | k+1,hk =>
    obtain⟨g1,g2⟩:=dist_lo k _ ho.2.2.1 (by omega)
    rw[h1,h2]
    refine⟨g1,fun hh=>?_⟩
    have:=g2 hh
    have:=hd.le i hi e he
    omega
theorem dist_fin {i:Nat} (hi:i<n.bridges.length):(sF n tree i).root=idN n tree r∧(sF n tree i).cost=cz c i:=by
 have hp:=hd.p i hi
 have hc:=fin_cost h tree hi
 have h1:=dist_up h hd (cz c i).toNat i hi (by omega)
 obtain⟨h2,h3⟩:=dist_lo h hd (sF n tree i).cost.toNat i hi (by omega)
 unfold leL at h1
 have:(sF n tree i).root=idN n tree r:=by omega
 exact⟨this,by have:=h3 this;omega⟩
end
def sayS (n:Net) (tree:Int) (r:Nat) (c:List Int):List Vec:=(List.range n.bridges.length).map fun i=>⟨idN n tree r,cz c i,idN n tree i,0⟩
def planS (n:Net) (tree:Int) (r:Nat) (c:List Int):List Place:=(List.range n.bridges.length).map fun i=>placeC (idN n tree i) (isoE (rawE (upL n) i)) (isoP (rawP n.links (i:Nat))) ⟨idN n tree r,cz c i,idN n tree i,0⟩ (sayS n tree r c) (sayS n tree r c)
theorem says_S {n:Net} (h:n.good) {tree:Int} {r:Nat} {c:List Int} (hd:Dist n tree r c):saysN n tree (n.bridges.length+1)=sayS n tree r c:=by
 apply List.ext_getElem?
 intro i
 unfold sayS
 by_cases hi:i<n.bridges.length
 ·rw[sayN_get hi,List.getElem?_map,List.getElem?_range hi,Option.map_some]
  obtain⟨h1,h2⟩:=dist_fin h hd hi
  obtain⟨h3,h4⟩:=sF_ids (tree:=tree) hi
  exact congrArg some (Vec.ext4 h1 h2 h3 h4)
 ·rw[List.getElem?_eq_none (by rw[saysN_len];omega),List.getElem?_eq_none (by simp;omega)]
theorem planF_S {n:Net} {reg:Region} (h:n.good) (hr:∀ b∈n.bridges,b.region=reg) {tree:Int} {r:Nat} {c:List Int} (hd:Dist n tree r c):planF n tree=planS n tree r c:=by
 have hs:=says_S h hd
 have hs0:saysN n tree n.bridges.length=sayS n tree r c:=by rw[←fin_list h tree];exact hs
 apply List.ext_getElem?
 intro i
 unfold planS
 by_cases hi:i<n.bridges.length
 ·rw[plan_get hi,List.getElem?_map,List.getElem?_range hi,Option.map_some]
  obtain⟨h1,h2⟩:=dist_fin h hd hi
  obtain⟨h3,h4⟩:=sF_ids (tree:=tree) hi
  have e1:sF n tree i=⟨idN n tree r,cz c i,idN n tree i,0⟩:=Vec.ext4 h1 h2 h3 h4
  have e2:endsOf n i=isoE (rawE (upL n) i):=by rw[ends_iso h];unfold upL;rw[region_one h hr]
  have e3:portsOf n.links (i:Nat)=isoP (rawP n.links (i:Nat)):=ports_iso _ _
  have e4:pF n tree i=(chooseS (idN n tree i) (offersOf (isoE (rawE (upL n) i)) (sayS n tree r c))).port:=by
   unfold pF chN
   rw[hs0,e2]
  congr 1
  unfold placeC
  simp only[Place.mk.injEq]
  refine⟨e1,e4,e3,?_⟩
  unfold rolesP
  rw[←e3]
  refine List.map_congr_left fun p _=>?_
  unfold roleF
  rw[hs,e1,e2,e4]
 ·rw[List.getElem?_eq_none (by rw[plan_len];omega),List.getElem?_eq_none (by simp;omega)]
theorem roleF_S {n:Net} {reg:Region} (h:n.good) (hr:∀ b∈n.bridges,b.region=reg) {tree:Int} {r:Nat} {c:List Int} (hd:Dist n tree r c) {i:Nat} (hi:i<n.bridges.length) {p:Int} (hp:p∈portsOf n.links i):roleF n tree i p=roleX (planS n tree r c) i p:=by
 rw[←planF_S h hr hd]
 unfold roleX
 rw[plan_get hi]
 simp only
 cases hx:ixI p (portsOf n.links i)with
 | none=>exact absurd hp (ixI_none hx)
 | some k =>
  simp only
  rw[List.getElem?_map,ixI_some hx];rfl
def opX (ps:List Place) (i:Nat) (p:Int):Bool:=decide (roleX ps i p=1∨roleX ps i p=2)
def bothX (ps:List Place) (x:Link):Bool:=opX ps x.a.toNat x.pa && opX ps x.b.toNat x.pb
def dRing (k r:Nat):List Int:=(List.range k).map fun i=>10*((min (if i≤r then r-i else i-r) (k-(if i≤r then r-i else i-r)):Nat):Int)
def dCut (k j:Nat):List Int:=(List.range k).map fun i=>10*((if i≤j then i else k-i:Nat):Int)
def downN (k j:Nat):Net:=⟨(lineN k true).bridges,(lineN k true).links.modify j fun l=>{ l with up:=false }⟩
theorem ring_dist : ∀ k,k<13→3≤k→distB (lineN k true) 0 0 (dRing k 0)=true:=by decide +kernel
theorem down_dist : ∀ k,k<13→3≤k→∀ j,j<k→distB (downN k j) 0 0 (dCut k j)=true:=by decide +kernel
theorem line_dist : ∀ k,k<13→1≤k→distB (lineN k false) 0 0 (dCut k k)=true:=by decide +kernel
theorem ring_open : ∀ k,k<13→3≤k→(lineN k true).links.countP (bothX (planS (lineN k true) 0 0 (dRing k 0)))=k-1:=by decide +kernel
end Go.Proofs.YtcdhlofhhcgohaaGreat
namespace Go.Proofs.YtcdhlofhhcgohaaGreat
open Go.RowKit
def net2 : Net:=⟨[⟨1,[],⟨[114],0,[]⟩⟩,⟨2,[],⟨[114],0,[]⟩⟩],[⟨0,1,1,2,5,true⟩]⟩
theorem net2_typed : net2.typed:=⟨fun b hb=>by simp[net2]at hb;rcases hb with rfl|rfl<;>decide,fun b hb=>by simp[net2]at hb;rcases hb with rfl|rfl<;>decide⟩
theorem net2_wrong : net2.wrong=(0,0):=by with_unfolding_all decide
theorem net2_good : net2.good:=((Net.wrong_iff net2_typed).1 (by rw[net2_wrong])).1
attribute [local irreducible] SStep DW DWin DOps thenQ inBlk loopQ retQ retQG FnF FnG FnI Wk IntKind.wrap IntKind.andI IntKind.orI IntKind.xorI IntKind.andNotI IntKind.shlI IntKind.shrI Net.wrong Bridge.id Bridge.prio identR idsR liveB mix
set_option maxHeartbeats 4000000 in
theorem ref6_Live (n:Net) (h:n.good):FnF Tryz.prog 33 [n.v] (.slice ((liveL n).map linkV)):=by
 refine fnF_of Tryz.func33 rfl rfl rfl ?_
 simp only[envOf]
 have hmb:(n.bridges.map bridgeV).length=n.bridges.length:=by simp
 have hml:(n.links.map linkV).length=n.links.length:=by simp
 have hnb:=h.nb
 have hnl:=h.nl
 obtain⟨nb,hnbe⟩:∃ nb,nb=n.bridges.length:=⟨_,rfl⟩
 rw[←hnbe]at hnb hmb
 repeat' (first|(apply dt rfl;case h=>exact S_mkM (f:=bytesR) (l:=nb) (c:=nb) [] _ rfl rfl (by rw[hmb]) (by rw[hmb]) (Nat.le_refl _) (by omega) rfl rfl)|refine qU ?_|((first|apply dX rfl|apply Da rfl rfl|apply Db rfl rfl qN);(focus ((try intro hg);first|exact qM));constructor)|refine qP ?_)
 have hil:(idsR n.bridges).length=(List.replicate nb ([]:List UInt8)).length:=by unfold idsR;simp[hnbe]
 refine DW_loop (fun k:Nat=>⟨[(1,.ptr 1 0),(3,.nil),(4,.own 12 0 0 nb),(14,.dat false (.slice (n.bridges.map bridgeV))),(15,.dat true (.int .i64 (n.bridges.map bridgeV).length)),(16,.dat true (.int .i64 k))],
   [(1,.cells false true (n.cells.map (.dat false))),(12,.row 0 false true 1 ((mix (idsR n.bridges) (List.replicate nb []) k).map bytesR))],56⟩)
  (fun k=>k≤nb) (fun k=>nb-k) 0 (Nat.zero_le _)
  (by rw[mix_zero];exact Wk_g some rfl rfl kq) (fun k hk=>?_)
 by_cases hlt:k<nb
 ·have hx:n.bridges[(k:Int).toNat]? = some (n.bridges[k]'(by omega)):=by simp[show k<n.bridges.length by omega]
  have hbo:=h.br (n.bridges[k]'(by omega)) (List.getElem_mem _)
  have hs0:(idsR n.bridges)[k]? = some (identR (n.bridges[k]'(by omega)).region):=by unfold idsR;simp[show k<n.bridges.length by omega]
  generalize n.bridges[k]'(by omega)=b at hx hbo hs0
  have hid:=ref3_Ident b.region hbo.r
  have hset:=mix_set hil hs0
  have hu:(mix (idsR n.bridges) (List.replicate nb []) k)[(k:Int).toNat]? = some []:=by rw[Int.toNat_natCast,mix_get hil];simp[hlt]
  repeat' (first|refine qU ?_|refine qW ?_|((first|apply dX rfl|apply Da rfl rfl|apply Db rfl rfl qN);(focus ((try intro hg);first|exact S_ixM rfl rfl (by omega) hx|exact S_call hid rfl|exact S_ixO rfl rfl rfl (by omega) (by omega)|exact S_storeM (f:=bytesR) (a:=identR b.region) rfl rfl hu rfl rfl (.inl rfl) rfl rfl|exact qM));constructor)|refine qP ?_)
  refine loop_again (k+1) hlt (by omega) ?_
  rw[←hset]
  exact(Wk_g some rfl rfl kq)
 ·rw [mix_all hil (by simp;omega)]
  have hil2:(idsR n.bridges).length=nb:=by rw[hil];simp
  refine DW_seal 4 rfl rfl (by rw[List.length_map,hil2]) ?_
  repeat' (first|refine qU ?_|refine qW ?_|((first|apply dX rfl|apply Da rfl rfl|apply Db rfl rfl qN);(focus ((try intro hg);first|exact qM));constructor)|refine qP ?_)
  refine DW_loop (fun p:Nat×List Link=>⟨[(3,.own 3 0 0 p.2.length),(4,.dat true (.slice ((idsR n.bridges).map bytesR))),(29,.dat false (.slice (n.links.map linkV))),(30,.dat true (.int .i64 (n.links.map linkV).length)),(31,.dat true (.int .i64 p.1))],
    [(3,.row 0 false true 6 (p.2.map linkV))],56⟩)
   (fun p=>p.1≤n.links.length∧p.2=(n.links.take p.1).filter (liveB n.bridges)) (fun p=>n.links.length-p.1) (0,[]) ⟨Nat.zero_le _,rfl⟩
   (Wk_g (fun g=>if g=3 then none else some g) rfl rfl kq) (fun p hR=>?_)
  obtain⟨k2,us⟩:=p
  obtain⟨hk2,hus⟩:=hR
  simp only at hk2 hus
  dsimp only
  have hul:us.length≤40:=by
   rw[hus]
   have:=live_le n k2
   omega
  by_cases hlt2:k2<n.links.length
  ·have hx:n.links[(k2:Int).toNat]? = some n.links[k2]:=by simp[hlt2]
   have hl:=h.lk n.links[k2] (List.getElem_mem hlt2)
   have hst:=live_take (bs:=n.bridges) (show n.links[k2]? = some n.links[k2] by simp[hlt2])
   rw[←hus]at hst
   generalize n.links[k2]=l at hx hl hst
   have ha0:=hl.a0
   have hb0:=hl.b0
   have hxa:(idsR n.bridges)[l.a.toNat]? = some ((idsR n.bridges)[l.a.toNat]'(by have:=hl.a1;omega)):=List.getElem?_eq_getElem _
   have hxb:(idsR n.bridges)[l.b.toNat]? = some ((idsR n.bridges)[l.b.toNat]'(by have:=hl.b1;omega)):=List.getElem?_eq_getElem _
   generalize (idsR n.bridges)[l.a.toNat]'(by have:=hl.a1;omega)=ra at hxa
   generalize (idsR n.bridges)[l.b.toNat]'(by have:=hl.b1;omega)=rb at hxb
   have hbe:=ref1_SameG ra rb
   have hlv:liveB n.bridges l=(l.up && decide (ra=rb)):=by with_unfolding_all (unfold liveB;rw[hxa,hxb];simp)
   rw[hlv]at hst
   obtain⟨a,pa,b,pb,cost,up⟩:=l
   cases up with
   | false =>
    simp only[Bool.false_and,Bool.false_eq_true,if_false,List.append_nil]at hst
    repeat' (first|refine qU ?_|refine qW ?_|((first|apply dX rfl|apply Da rfl rfl|apply Db rfl rfl qN);(focus ((try intro hg);first|exact S_ixM rfl rfl (by omega) hx|exact qM));constructor)|refine qP ?_)
    exact loop_again (k2+1,us) ⟨hlt2,hst.symm⟩ (by simp only;omega) (Wk_g some rfl rfl kq)
   | true =>
    by_cases hr:ra=rb
    ·rw[decide_eq_true hr]at hst hbe
     simp only[Bool.true_and,if_true]at hst
     repeat' (first|refine qU ?_|refine qW ?_|((first|apply dX rfl|apply Da rfl rfl|apply Db rfl rfl qN);(focus ((try intro hg);first|exact S_ixM rfl rfl (by omega) hx|exact S_ixM (f:=bytesR) rfl rfl ha0 hxa|exact S_ixM (f:=bytesR) rfl rfl hb0 hxb|exact S_call hbe rfl|exact S_appM (f:=linkV) (us:=us) (bs := [(⟨a,pa,b,pb,cost,true⟩:Link)]) rfl rfl (.dat _ _) rfl rfl (.inr ⟨rfl,inferInstance⟩) rfl (by simp only[List.length_singleton];omega)|exact qM));constructor)|refine qP ?_)
     exact loop_again (k2+1,us++[⟨a,pa,b,pb,cost,true⟩]) ⟨hlt2,hst.symm⟩ (by simp only;omega) (Wk_g some rfl rfl kq)
    ·rw[decide_eq_false hr]at hst hbe
     simp only[Bool.true_and,Bool.false_eq_true,if_false,List.append_nil]at hst
     repeat' (first|refine qU ?_|refine qW ?_|((first|apply dX rfl|apply Da rfl rfl|apply Db rfl rfl qN);(focus ((try intro hg);first|exact S_ixM rfl rfl (by omega) hx|exact S_ixM (f:=bytesR) rfl rfl ha0 hxa|exact S_ixM (f:=bytesR) rfl rfl hb0 hxb|exact S_call hbe rfl|exact qM));constructor)|refine qP ?_)
     exact loop_again (k2+1,us) ⟨hlt2,hst.symm⟩ (by simp only;omega) (Wk_g some rfl rfl kq)
  ·have he:us=liveL n:=by rw[hus,List.take_of_length_le (by omega)];rfl
   refine DW_seal 3 rfl rfl (by simp) ?_
   repeat' (first|refine qU ?_|refine qW ?_|((first|apply dX rfl|apply Da rfl rfl|apply Db rfl rfl qN);(focus ((try intro hg);first|exact qM));constructor)|refine qP ?_)
   refine ret1 rfl qF ?_
   rw[←he]
end Go.Proofs.YtcdhlofhhcgohaaGreat
namespace Go.Proofs.YtcdhlofhhcgohaaGreat
open Go.RowKit
attribute [local irreducible] SStep DW DWin DOps thenQ inBlk loopQ retQ retQG FnF FnG FnI FnM Wk IntKind.wrap IntKind.andI IntKind.orI IntKind.xorI IntKind.andNotI IntKind.shlI IntKind.shrI
def tickD (k:Int):Doing:=⟨1,k,0,0⟩
end Go.Proofs.YtcdhlofhhcgohaaGreat
namespace Go.Proofs.YtcdhlofhhcgohaaGreat
open Go.RowKit
theorem play_two {n:Net} (ht:n.typed) {trees:Int} {l:List Doing} {m:Net} {t:List (List Mind)} (_hp:playA n trees l=(some (m,t),(0,0))) (hg:n.good) (h0:n.wrong.1=0) (h1:1≤trees) (h2:trees≤4) (hon:onLoop 0 l n (start0 n trees.toNat)=(some (m,t),(0,0))) :
  m.good∧m.typed∧m.wrong.1=0∧Kin n m∧goodT m t∧t.length=trees.toNat:=by
 have:=onLoop_good l 0 n (start0 n trees.toNat) hg (start0_good (by omega)) (m,t) (by rw[hon])
 obtain⟨g1,g2,g3,g4,_⟩:=this
 exact⟨g1,net_typed ht g3,wrong_kin ht h0 g3 g1,g3,g2,by rw[g4];simp[start0]⟩
theorem onA_loop {n:Net} {t:List (List Mind)} {l:List Doing} (h0:n.wrong.1=0) (hl:l.length≤30):onA n t l=onLoop 0 l n t:=by
 unfold onA
 rw[if_neg (by omega),if_neg (by omega)]
theorem playA_loop {n:Net} {trees:Int} {l:List Doing} (h0:n.wrong.1=0) (h1:1≤trees) (h2:trees≤4) (hl:l.length≤30):playA n trees l=onLoop 0 l n (start0 n trees.toNat):=by
 unfold playA startA
 rw[if_neg (show ¬n.wrong.1≠0 by omega),if_neg (show ¬(trees<1∨4<trees) by omega)]
 exact onA_loop h0 hl
attribute [local irreducible] SStep DW DWin DOps thenQ inBlk loopQ retQ retQG FnF FnG FnI FnM Wk IntKind.wrap IntKind.andI IntKind.orI IntKind.xorI IntKind.andNotI IntKind.shlI IntKind.shrI playA onA
end Go.Proofs.YtcdhlofhhcgohaaGreat
namespace Go.Proofs.YtcdhlofhhcgohaaGreat
open Go.RowKit
theorem calm_nonneg {n:Net} {t:List (List Mind)} (ht:goodT n t) {l:List Mind} (hl:l∈t) (i j:Nat):0≤cAt (mAt l i) j:=by
 unfold cAt
 by_cases hi:i<l.length
 ·have hm:=(ht.m l hl).2 i _ (mAt_get hi)
  by_cases hj:j<(mAt l i).calm.length
  ·rw[List.getElem?_eq_getElem hj];exact(hm.b _ (List.getElem_mem hj)).1
  ·rw[List.getElem?_eq_none (by omega)];exact Int.le_refl _
 ·unfold mAt
  rw[show l[i]? = none from List.getElem?_eq_none (by omega)];exact Int.le_refl _
theorem opensT_at {m:Net} (hg:m.good) {t1:List (List Mind)} (ht:goodT m t1) {T:Nat} (hT:90≤T) {k i:Nat} (hk:k<t1.length) (hi:i<m.bridges.length) {p:Int} (hp:p∈portsOf m.links i) :
  opensT (ticksN m t1 T) k i p=decide (roleF m k i p=1∨roleF m k i p=2):=by
 have hkl:k<(ticksN m t1 T).length:=by rw[ticks_len];exact hk
 have hmem:t1[k]∈t1:=List.getElem_mem hk
 have hl1:=(ht.m t1[k] hmem).1
 have hget:(ticksN m t1 T)[k]? = some (tkN m k t1[k] T):=by rw[ticksN_get,List.getElem?_eq_getElem hk];rfl
 unfold opensT
 rw[if_neg (by omega)]
 simp only[Int.toNat_natCast]
 rw[hget,Option.getD_some,if_neg (by rw[tkN_len];omega)]
 exact opens_at hg k hl1 (fun i j=>calm_nonneg ht hmem i j) hi hT hp
attribute [local irreducible] SStep DW DWin DOps thenQ inBlk loopQ retQ retQG FnF FnG FnI FnM Wk IntKind.wrap IntKind.andI IntKind.orI IntKind.xorI IntKind.andNotI IntKind.shlI IntKind.shrI playA onA ticksN tkN planF portsOf roleF opensT
end Go.Proofs.YtcdhlofhhcgohaaGreat
