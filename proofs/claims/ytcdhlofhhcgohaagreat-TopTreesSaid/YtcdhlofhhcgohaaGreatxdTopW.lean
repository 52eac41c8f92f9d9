/- Contract: hedgetop's line, lent in the caller's memory. -/
import Derived.Test.YtcdhlofhhcgohaaGreatxcSet
import Derived.Test.YtcdhlofhhcgohaaGreatxfTalkOpens
import Derived.Test.YtcdhlofhhcgohaaGreatxbFrw
import Derived.Test.YtcdhlofhhcgohaaGreatxdTlm
namespace Go.Proofs.YtcdhlofhhcgohaaGreat
open Go.RowKit
attribute [local irreducible] SStep DW DWin DOps thenQ inBlk loopQ retQ retQG FnF FnG FnI FnM Wk IntKind.wrap IntKind.andI IntKind.orI IntKind.xorI IntKind.andNotI IntKind.shlI IntKind.shrI
def lineM (n:Net):Mem := [(900,.row 0 false true 5 (n.bridges.map bridgeV)),(901,.row 0 false true 6 (n.links.map linkV))]
set_option maxHeartbeats 8000000 in
theorem top_lineO (k:Nat) (hk:k≤12) (ring:Bool):FnM Tryz.prog 43 ([.int .i64 k,.bool ring].map (D.dat false)) [] (.aggd [.own 900 0 0 (lineN k ring).bridges.length,.own 901 0 0 (lineN k ring).links.length]) (lineM (lineN k ring)):=by
 refine fnM_new (K := [900,901]) (t:=4) Tryz.func43 rfl rfl rfl rfl rfl rfl rfl ?_
 simp only[envOf]
 repeat' (first|refine qU ?_|refine qW ?_|((first|apply dX rfl|apply Da rfl rfl|apply Db rfl rfl qN);(focus ((try intro hg);first|exact qMo));constructor)|refine qP ?_)
 refine DW_loop (fun q:Nat×List Bridge×List Link=>⟨[(0,.dat false (.int .i64 k)),(1,.dat false (.bool ring)),(4,.ptr 4 0),(5,.ptr 5 0),(7,.dat false (.int .i64 k)),(8,.dat true (.int .i64 q.1))],[(4,.cells false true [.nil,.nil]),(5,.cells false true [.own 900 0 0 q.2.1.length,.own 901 0 0 q.2.2.length]),(900,.row 0 false true 5 (q.2.1.map bridgeV)),(901,.row 0 false true 6 (q.2.2.map linkV))],47⟩)
  (fun q=>q.1≤k∧q.2.1=(List.range q.1).map brK∧q.2.2=(List.range (q.1-1)).map lkK) (fun q=>k-q.1) (0,[],[]) ⟨Nat.zero_le _,rfl,rfl⟩
  (Wk_g (fun g=>if g=900 then none else if g=901 then none else some g) rfl rfl kq) (fun q hR=>?_)
 obtain⟨i,bs,ls⟩:=q
 obtain⟨hi,hbs,hls⟩:=hR
 simp only at hi hbs hls
 dsimp only
 have hbl:bs.length=i:=by rw[hbs];simp
 have hll:ls.length=i-1:=by rw[hls];simp
 by_cases hlt:i<k
 ·have hb1:=range_brK i
  rw[←hbs]at hb1
  by_cases h0:0<i
  ·have hl1:=range_lkK h0
   rw[←hls]at hl1
   repeat' (first|refine qU ?_|refine qW ?_|((first|apply dX rfl|apply Da rfl rfl|apply Db rfl rfl qN);(focus ((try intro hg);first|exact S_appM (f:=bridgeV) (us:=bs) (bs := [⟨10+(i:Int),[],regR⟩]) rfl rfl (.dat _ _) rfl rfl (.inl rfl) rfl (by simp only[List.length_singleton];omega)|exact S_appM (f:=linkV) (us:=ls) (bs := [⟨(i:Int)-1,2,(i:Int),1,10,true⟩]) rfl rfl (.dat _ _) rfl rfl (.inl rfl) rfl (by simp only[List.length_singleton];omega)|exact qMo));constructor)|refine qP ?_)
   exact loop_again (i+1,bs++[(⟨10+(i:Int),[],regR⟩:Bridge)],ls++[(⟨(i:Int)-1,2,(i:Int),1,10,true⟩:Link)]) ⟨hlt,hb1.symm,hl1.symm⟩ (by simp only;omega) (Wk_g some rfl rfl kqp)
  ·repeat' (first|refine qU ?_|refine qW ?_|((first|apply dX rfl|apply Da rfl rfl|apply Db rfl rfl qN);(focus ((try intro hg);first|exact S_appM (f:=bridgeV) (us:=bs) (bs := [⟨10+(i:Int),[],regR⟩]) rfl rfl (.dat _ _) rfl rfl (.inl rfl) rfl (by simp only[List.length_singleton];omega)|exact qMo));constructor)|refine qP ?_)
   exact loop_again (i+1,bs++[(⟨10+(i:Int),[],regR⟩:Bridge)],ls) ⟨hlt,hb1.symm,by rw[hls,show i=0 by omega];rfl⟩ (by simp only;omega) (Wk_g some rfl rfl kqp)
 ·have hik:i=k:=by omega
  subst hik
  by_cases hr:ring=true∧2<i
  ·obtain⟨hr1,hr2⟩:=hr
   subst hr1
   have hlr:lineN i true=⟨bs,ls++[⟨(i:Int)-1,2,0,1,10,true⟩]⟩:=by
    unfold lineN ringLk
    rw[if_pos ⟨rfl,hr2⟩,hbs,hls];rfl
   repeat' (first|refine DW_mark 901 (bx := .row (0+1) false true 6 ((ls++[(⟨(i:Int)-1,2,0,1,10,true⟩:Link)]).map linkV)) rfl ?_|refine qU ?_|refine qW ?_|((first|apply dX rfl|apply Da rfl rfl|apply Db rfl rfl qN);(focus ((try intro hg);first|exact S_appM (f:=linkV) (us:=ls) (bs := [⟨(i:Int)-1,2,0,1,10,true⟩]) rfl rfl (.dat _ _) rfl rfl (.inl rfl) rfl (by simp only[List.length_singleton];omega)|exact qMo));constructor)|refine qP ?_)
   intro _
   refine DW_weak (s':=⟨[(4,.ptr 4 0),(5,.ptr 5 0)],[(4,.cells false true [.nil,.nil]),(5,.cells false true [.own 900 0 0 bs.length,.own 901 0 0 (ls++[(⟨(i:Int)-1,2,0,1,10,true⟩:Link)]).length]),(900,.row 0 false true 5 (bs.map bridgeV)),(901,.row 0 false true 6 ((ls++[(⟨(i:Int)-1,2,0,1,10,true⟩:Link)]).map linkV))],47⟩) (Wk_g some rfl rfl kqp) ?_
   rw[hlr]
   repeat' (first|refine qU ?_|refine qW ?_|((first|apply dX rfl|apply Da rfl rfl|apply Db rfl rfl qN);(focus ((try intro hg);first|exact qMo));constructor)|refine qP ?_)
   exact⟨4,_,_,rfl,rfl,rfl⟩
  ·have hlr:lineN i ring=⟨bs,ls⟩:=by
    unfold lineN ringLk
    rw[if_neg hr,hbs,hls,List.append_nil]
   cases ring with
   | false =>
    refine DW_weak (s':=⟨[(0,.dat false (.int .i64 i)),(1,.dat false (.bool false)),(4,.ptr 4 0),(5,.ptr 5 0),(7,.dat false (.int .i64 i)),(8,.dat true (.int .i64 i))],[(4,.cells false true [.nil,.nil]),(5,.cells false true [.own 900 0 0 bs.length,.own 901 0 0 ls.length]),(900,.row 0 false true 5 (bs.map bridgeV)),(901,.row 0 false true 6 (ls.map linkV))],47⟩) (Wk_g some rfl rfl kqp) ?_
    rw[hlr]
    repeat' (first|refine qU ?_|refine qW ?_|((first|apply dX rfl|apply Da rfl rfl|apply Db rfl rfl qN);(focus ((try intro hg);first|exact qMo));constructor)|refine qP ?_)
    exact⟨4,_,_,rfl,rfl,rfl⟩
   | true =>
    have h2:¬ 2<i:=fun h=>hr ⟨rfl,h⟩
    refine DW_weak (s':=⟨[(0,.dat false (.int .i64 i)),(1,.dat false (.bool true)),(4,.ptr 4 0),(5,.ptr 5 0),(7,.dat false (.int .i64 i)),(8,.dat true (.int .i64 i))],[(4,.cells false true [.nil,.nil]),(5,.cells false true [.own 900 0 0 bs.length,.own 901 0 0 ls.length]),(900,.row 0 false true 5 (bs.map bridgeV)),(901,.row 0 false true 6 (ls.map linkV))],47⟩) (Wk_g some rfl rfl kqp) ?_
    rw[hlr]
    repeat' (first|refine qU ?_|refine qW ?_|((first|apply dX rfl|apply Da rfl rfl|apply Db rfl rfl qN);(focus ((try intro hg);first|exact qMo));constructor)|refine qP ?_)
    exact⟨4,_,_,rfl,rfl,rfl⟩
end Go.Proofs.YtcdhlofhhcgohaaGreat
namespace Go.Proofs.YtcdhlofhhcgohaaGreat
open Go.RowKit
theorem lineM_mut {n:Net} {g:Nat} (h:Mem.at (lineM n) g ≠ .gone):(Mem.at (lineM n) g).mut=true:=by
 unfold lineM at h ⊢
 unfold Mem.at at h ⊢
 rw[look_cons,look_cons]at h ⊢
 split
 ·rfl
 ·rename_i h1
  rw[if_neg h1]at h
  split
  ·rfl
  ·rename_i h2
   rw[if_neg h2]at h
   exact absurd rfl h
theorem lineM_keys {n:Net} {g:Nat} (h:g∈(lineM n).map (·.1)):g∈[900,901]:=h
theorem lineM_hs {m:Mem} (h0:m.at 900 = .gone) (h1:m.at 901 = .gone):∀ g,g∈[900,901]→Mem.at ([]:Mem) g=m.at g:=fun g hg=>by
 simp only[List.mem_cons,List.mem_nil_iff,or_false]at hg
 rcases hg with rfl|rfl
 ·exact h0.symm
 ·exact h1.symm
theorem lineM_app {n:Net}:∀ g,Mem.at (lineM n) g=Mem.at (lineM n++[]) g:=fun _=>by rw[List.append_nil]
theorem top_lineC (k:Nat) (hk:k≤12) (ring:Bool):FnM Tryz.prog 43 [.dat false (.int .i64 k),.dat true (.bool ring)] [] (.aggd [.own 900 0 0 (lineN k ring).bridges.length,.own 901 0 0 (lineN k ring).links.length]) (lineM (lineN k ring)) :=
 have h:=top_lineO k hk ring
 ⟨h.1,fun C vs hm hl hv=>h.2 C vs hm hl (fun j d v hd hj=>by
  match j,hd with
  | 0,hd=>exact hv 0 d v hd hj
  | 1,hd =>
   injection hd with hd
   subst hd
   have h1:RdF C true (.bool ring) v:=hv 1 _ v rfl hj
   exact h1.weak hm
  | j+2,hd=>simp at hd)⟩
end Go.Proofs.YtcdhlofhhcgohaaGreat
