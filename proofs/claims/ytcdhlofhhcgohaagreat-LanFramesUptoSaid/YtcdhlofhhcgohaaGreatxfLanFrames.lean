/- Law: LanFrames. -/
import Derived.Test.YtcdhlofhhcgohaaGreatxfLanA
namespace Go.Proofs.YtcdhlofhhcgohaaGreat
open Go.RowKit
theorem bare_same {f:Frame} (hf:f.tagged=false):(bareF f).same f=true:=by
 unfold Frame.same bareF
 rw[hf];simp
theorem bare_ok {f:Frame} (hf:f.ok):(bareF f).ok:=⟨hf.d0,hf.d1,hf.s0,hf.s1,by show(-9223372036854775808:Int)≤0;decide,by show(0:Int)≤_;decide,by show(-9223372036854775808:Int)≤0;decide,by show(0:Int)≤_;decide,hf.t0,hf.t1,hf.l⟩
attribute [local irreducible] SStep DW DWin DOps thenQ inBlk loopQ retQ retQG FnF FnG FnI FnM Wk IntKind.wrap IntKind.andI IntKind.orI IntKind.xorI IntKind.andNotI IntKind.shlI IntKind.shrI playA onA onV sendR goS wrongB
set_option maxHeartbeats 8000000 in
theorem law_LanFrames (n:Net) (ht:n.typed) (trees:Int) (l:List Doing) (bs:List (List Ent)) (hbl:bs.length≤1048576) (hbe:∀ l∈bs,l.length≤1048576) (frm vid:Int) (f:Frame) (hf:f.ok) :
  FnF Tryz.prog 6 [n.v,.int .i64 trees,.slice (l.map Doing.cells),.slice (bs.map bookR),.int .i64 frm,.int .i64 vid,f.v] (.bool true):=by
 refine fnF_of Tryz.func6 rfl rfl rfl ?_
 simp only[envOf]
 have hp:=talk_Play n ht trees l
 rcases playA_cases ht trees l with⟨w,hw,hne⟩|⟨hg,h0,h1,h2,hl,⟨m,t⟩,hon,hpl⟩
 ·rw[hw]at hp
  obtain⟨e,k⟩:=w
  simp only at hne
  rw[show onV (none,(e,k)) = .tuple [Net.v ⟨[],[]⟩,talkV [],faultV (e,k)] by with_unfolding_all rfl]at hp
  repeat' (first|refine qU ?_|refine qW ?_|((first|apply dX rfl|apply Da rfl rfl|apply Db rfl rfl qN);(focus ((try intro hg);first|exact S_call law10_alive rfl|exact S_call hp rfl|exact qMo));constructor)|refine qP ?_)
  refine ret1 rfl qF ?_
  rfl
 rw[hpl]at hp
 rw[show onV (some (m,t),(0,0)) = .tuple [m.v,talkV t,faultV (0,0)] by with_unfolding_all rfl]at hp
 obtain⟨mg,mt,m0,mk,mgt,mtl⟩:=play_two ht hpl hg h0 h1 h2 hon
 have hs:=lan_SendR m mt m0 t mgt (by omega) bs hbl hbe frm vid f hf
 rcases send_cases m t bs frm vid f with⟨hbad,hse,hbo⟩|⟨c1,c2,c3,c4,c5,c6,c7,c8⟩
 ·generalize sendR m t bs frm vid f=s at hs hbad hse hbo
  obtain⟨seen,books,ok,e,k⟩:=s
  simp only at hbad hse hbo
  subst hse hbo
  change FnF _ _ _ (.tuple [.slice [],.slice [],.bool ok,.agg [.int .i64 e,.int .i64 k]])at hs
  by_cases he:e=0
  ·have hok:ok=false:=by
    rcases hbad with h|h
    ·exact absurd he h
    ·exact h
   subst hok
   repeat' (first|refine qU ?_|refine qW ?_|((first|apply dX rfl|apply Da rfl rfl|apply Db rfl rfl qN);(focus ((try intro hg);first|exact S_call law10_alive rfl|exact S_call hp rfl|exact S_call hs rfl|exact qMo));constructor)|refine qP ?_)
   refine ret1 rfl qF ?_
   rfl
  ·repeat' (first|refine qU ?_|refine qW ?_|((first|apply dX rfl|apply Da rfl rfl|apply Db rfl rfl qN);(focus ((try intro hg);first|exact S_call law10_alive rfl|exact S_call hp rfl|exact S_call hs rfl|exact qMo));constructor)|refine qP ?_)
   refine ret1 rfl qF ?_
   rfl
 obtain⟨k1,k2⟩:=seen_frames (vid:=vid) (frm:=frm) c3.1 c4 c1 mg c2 c6
 rw[c8]at hs
 generalize goS m t vid 41 [⟨frm,0,f⟩] [] bs=s at hs k1 k2 c6 c7
 obtain⟨seen,books,ok,w⟩:=s
 simp only at k1 k2 c6 c7
 subst c6 c7
 change FnF _ _ _ (.tuple [.slice (seen.map outV),.slice (books.map bookR),.bool true,.agg [.int .i64 0,.int .i64 0]])at hs
 have hsl:(seen.map outV).length=seen.length:=by simp
 have hkl:(books.map bookR).length=books.length:=by simp
 have hbl2:(bs.map bookR).length=bs.length:=by simp
 have hkb:=k2.l
 repeat' (first|refine qU ?_|refine qW ?_|((first|apply dX rfl|apply Da rfl rfl|apply Db rfl rfl qN);(focus ((try intro hg);first|exact S_call law10_alive rfl|exact S_call hp rfl|exact S_call hs rfl|exact qMo));constructor)|refine qP ?_)
 refine DW_len 64 rfl (fun hlen=>?_)
 refine DW_loop (fun k:Nat=>⟨[(3,.dat false (.slice (bs.map bookR))),(13,.ptr 13 0),(19,.dat true (.slice (books.map bookR))),(64,.dat true (.slice (seen.map outV))),(65,.dat true (.int .i64 (seen.map outV).length)),(66,.dat true (.int .i64 k))],[(13,.cells false true (f.cells.map (.dat false)))],129⟩)
  (fun k=>k≤seen.length) (fun k=>seen.length-k) 0 (Nat.zero_le _) (Wk_g some rfl rfl kqp) (fun k hk=>?_)
 by_cases hlt:k<seen.length
 ·have hx:seen[(k:Int).toNat]? = some seen[k]:=by simp[hlt]
  obtain⟨_,hsf⟩:=k1 _ (List.getElem_mem hlt)
  generalize seen[k]=x at hx hsf
  obtain⟨b,g⟩:=x
  simp only at hsf
  subst hsf
  have hsm:=ref2_Same (bareF f) f (bare_ok hf) hf
  rw[bare_same c4]at hsm
  repeat' (first|refine qU ?_|refine qW ?_|((first|apply dX rfl|apply Da rfl rfl|apply Db rfl rfl qN);(focus ((try intro hg);first|exact S_ixM rfl rfl (by omega) hx|exact S_call hsm rfl|exact qMo));constructor)|refine qP ?_)
  exact loop_again (k+1) hlt (by omega) (Wk_g some rfl rfl kqp)
 repeat' (first|refine qU ?_|refine qW ?_|((first|apply dX rfl|apply Da rfl rfl|apply Db rfl rfl qN);(focus ((try intro hg);first|exact qMo));constructor)|refine qP ?_)
 refine DW_loop (fun i:Nat=>⟨[(3,.dat false (.slice (bs.map bookR))),(13,.ptr 13 0),(19,.dat true (.slice (books.map bookR))),(82,.dat true (.int .i64 (books.map bookR).length)),(83,.dat true (.int .i64 i))],[(13,.cells false true (f.cells.map (.dat false)))],129⟩)
  (fun i=>i≤books.length) (fun i=>books.length-i) 0 (Nat.zero_le _) (Wk_g some rfl rfl kqp) (fun i hi=>?_)
 by_cases hli:i<books.length
 ·have hx:books[(i:Int).toNat]? = some books[i]:=by simp[hli]
  have hy:bs[(i:Int).toNat]? = some (bs[i]'(by omega)):=by simp[show i<bs.length by omega]
  have hb:=k2.b i _ _ (List.getElem?_eq_getElem (show i<bs.length by omega)) (List.getElem?_eq_getElem hli)
  generalize books[i]=l1 at hx hb
  generalize bs[i]'(by omega)=l0 at hy hb
  have h3:=ref8_Wrong l0
  have h4:=ref8_Wrong l1
  have h5:=ref8_Same l0
  by_cases hw0:(wrongB l0).1=0
  ·have hw1:(wrongB l1).1=0:=by
    rcases hb with rfl|⟨_,h⟩
    ·exact hw0
    ·exact h
   generalize wrongB l0=w0 at h3 hw0
   generalize wrongB l1=w1 at h4 hw1
   obtain⟨a0,i0⟩:=w0
   obtain⟨a1,i1⟩:=w1
   simp only at hw0 hw1
   subst hw0 hw1
   repeat' (first|refine qU ?_|refine qW ?_|((first|apply dX rfl|apply Da rfl rfl|apply Db rfl rfl qN);(focus ((try intro hg);first|exact S_ixM rfl rfl (by omega) hx|exact S_ixM rfl rfl (by omega) hy|exact S_call h3 rfl|exact S_call h4 rfl|exact qMo));constructor)|refine qP ?_)
   exact loop_again (i+1) hli (by omega) (Wk_g some rfl rfl kqp)
  ·have hl1:l1=l0:=by
    rcases hb with h|⟨h,_⟩
    ·exact h
    ·exact absurd h hw0
   subst hl1
   generalize wrongB l1=w0 at h3 hw0
   obtain⟨a0,i0⟩:=w0
   simp only at hw0
   repeat' (first|refine qU ?_|refine qW ?_|((first|apply dX rfl|apply Da rfl rfl|apply Db rfl rfl qN);(focus ((try intro hg);first|exact S_ixM rfl rfl (by omega) hx|exact S_ixM rfl rfl (by omega) hy|exact S_call h3 rfl|exact S_call h5 rfl|exact qMo));constructor)|refine qP ?_)
   exact loop_again (i+1) hli (by omega) (Wk_g some rfl rfl kqp)
 ·repeat' (first|refine qU ?_|refine qW ?_|((first|apply dX rfl|apply Da rfl rfl|apply Db rfl rfl qN);(focus ((try intro hg);first|exact qMo));constructor)|refine qP ?_)
  refine ret1 rfl qF ?_
  rfl
end Go.Proofs.YtcdhlofhhcgohaaGreat
