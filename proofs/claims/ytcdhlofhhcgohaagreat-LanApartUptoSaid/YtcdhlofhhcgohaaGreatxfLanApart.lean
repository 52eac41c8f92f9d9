/- Law: LanApart. -/
import Derived.Test.YtcdhlofhhcgohaaGreatxfLanA
namespace Go.Proofs.YtcdhlofhhcgohaaGreat
open Go.RowKit
attribute [local irreducible] SStep DW DWin DOps thenQ inBlk loopQ retQ retQG FnF FnG FnI FnM Wk IntKind.wrap IntKind.andI IntKind.orI IntKind.xorI IntKind.andNotI IntKind.shlI IntKind.shrI playA onA onV sendR goS identR
set_option maxHeartbeats 8000000 in
theorem law_LanApart (n:Net) (ht:n.typed) (trees:Int) (l:List Doing) (bs:List (List Ent)) (hbl:bs.length≤1048576) (hbe:∀ l∈bs,l.length≤1048576) (frm vid:Int) (f:Frame) (hf:f.ok) :
  FnF Tryz.prog 5 [n.v,.int .i64 trees,.slice (l.map Doing.cells),.slice (bs.map bookR),.int .i64 frm,.int .i64 vid,f.v] (.bool true):=by
 refine fnF_of Tryz.func5 rfl rfl rfl ?_
 simp only[envOf]
 have hp:=talk_Play n ht trees l
 rcases playA_cases ht trees l with⟨w,hw,hne⟩|⟨hg,h0,h1,h2,hl,⟨m,t⟩,hon,hpl⟩
 ·rw[hw]at hp
  obtain⟨e,k⟩:=w
  simp only at hne
  rw[show onV (none,(e,k)) = .tuple [Net.v ⟨[],[]⟩,talkV [],faultV (e,k)] by with_unfolding_all rfl]at hp
  repeat' (first|refine qU ?_|refine qW ?_|((first|apply dX rfl|apply Da rfl rfl|apply Db rfl rfl qN);(focus ((try intro hg);first|exact S_call law10_alive rfl|exact S_call hp rfl|exact qMo));constructor)|refine qP ?_)
  refine ret1 rfl qF ?_
  rfl
 rw[hpl]at hp
 rw[show onV (some (m,t),(0,0)) = .tuple [m.v,talkV t,faultV (0,0)] by with_unfolding_all rfl]at hp
 obtain⟨mg,mt,m0,mk,mgt,mtl⟩:=play_two ht hpl hg h0 h1 h2 hon
 have hcr:CalmR m t:=calmR_loop l 0 n (start0 n trees.toNat) hg (start0_good (by omega)) (calmR_start _) (m,t) (by rw[hon])
 have hs:=lan_SendR m mt m0 t mgt (by omega) bs hbl hbe frm vid f hf
 rcases send_cases m t bs frm vid f with⟨hbad,hse,hbo⟩|⟨c1,c2,c3,c4,c5,c6,c7,c8⟩
 ·generalize sendR m t bs frm vid f=s at hs hbad hse hbo
  obtain⟨seen,books,ok,e,k⟩:=s
  simp only at hbad hse hbo
  subst hse hbo
  change FnF _ _ _ (.tuple [.slice [],.slice [],.bool ok,.agg [.int .i64 e,.int .i64 k]])at hs
  by_cases he:e=0
  ·repeat' (first|refine qU ?_|refine qW ?_|((first|apply dX rfl|apply Da rfl rfl|apply Db rfl rfl qN);(focus ((try intro hg);first|exact S_call law10_alive rfl|exact S_call hp rfl|exact S_call hs rfl|exact qMo));constructor)|refine qP ?_)
   refine DW_loop (fun _:Unit=>⟨[(55,.dat true (.int .i64 0)),(56,.dat true (.int .i64 0))],[],79⟩) (fun _=>True) (fun _=>0) () trivial (Wk_g some rfl rfl kqp) (fun _ _=>?_)
   repeat' (first|refine qU ?_|refine qW ?_|((first|apply dX rfl|apply Da rfl rfl|apply Db rfl rfl qN);(focus ((try intro hg);first|exact qMo));constructor)|refine qP ?_)
   refine ret1 rfl qF ?_
   rfl
  ·repeat' (first|refine qU ?_|refine qW ?_|((first|apply dX rfl|apply Da rfl rfl|apply Db rfl rfl qN);(focus ((try intro hg);first|exact S_call law10_alive rfl|exact S_call hp rfl|exact S_call hs rfl|exact qMo));constructor)|refine qP ?_)
   refine ret1 rfl qF ?_
   rfl
 have k1:=seen_region (vid:=vid) (frm:=frm) (f:=f) mg mgt hcr (bs0:=bs) c2 c6
 rw[c8]at hs
 generalize goS m t vid 41 [⟨frm,0,f⟩] [] bs=s at hs k1 c6 c7
 obtain⟨seen,books,ok,w⟩:=s
 simp only at k1 c6 c7
 subst c6 c7
 change FnF _ _ _ (.tuple [.slice (seen.map outV),.slice (books.map bookR),.bool true,.agg [.int .i64 0,.int .i64 0]])at hs
 have hsl:(seen.map outV).length=seen.length:=by simp
 obtain⟨c,hc⟩:∃ c,m.bridges[frm.toNat]? = some c:=⟨_,List.getElem?_eq_getElem (by omega)⟩
 have hci:=ref3_Ident c.region (mg.br c (List.mem_of_getElem? hc)).r
 repeat' (first|refine qU ?_|refine qW ?_|((first|apply dX rfl|apply Da rfl rfl|apply Db rfl rfl qN);(focus ((try intro hg);first|exact S_call law10_alive rfl|exact S_call hp rfl|exact S_call hs rfl|exact qMo));constructor)|refine qP ?_)
 refine DW_len 54 rfl (fun hlen=>?_)
 refine DW_loop (fun k:Nat=>⟨[(4,.dat false (.int .i64 frm)),(15,.ptr 15 0),(54,.dat true (.slice (seen.map outV))),(55,.dat true (.int .i64 (seen.map outV).length)),(56,.dat true (.int .i64 k))],[(15,.cells false true (m.cells.map (.dat true)))],79⟩)
  (fun k=>k≤seen.length) (fun k=>seen.length-k) 0 (Nat.zero_le _) (Wk_g some rfl rfl kqp) (fun k hk=>?_)
 by_cases hlt:k<seen.length
 ·have hx:seen[(k:Int).toNat]? = some seen[k]:=by simp[hlt]
  obtain⟨hr,hid⟩:=k1 _ (List.getElem_mem hlt)
  generalize seen[k]=x at hx hr hid
  obtain⟨q,g⟩:=x
  simp only at hr hid
  obtain⟨b,hb⟩:∃ b,m.bridges[q.toNat]? = some b:=⟨_,List.getElem?_eq_getElem (by omega)⟩
  have hbi:=ref3_Ident b.region (mg.br b (List.mem_of_getElem? hb)).r
  have hsame:¬identR b.region≠identR c.region:=fun hn=>hn (by
   unfold idsR at hid
   rw[List.getElem?_map,List.getElem?_map,hb,hc]at hid
   simpa using hid)
  repeat' (first|refine qU ?_|refine qW ?_|((first|apply dX rfl|apply Da rfl rfl|apply Db rfl rfl qN);(focus ((try intro hg);first|exact S_ixM rfl rfl (by omega) hx|exact S_ixM rfl rfl (by omega) hb|exact S_ixM rfl rfl (by omega) hc|exact S_call hbi rfl|exact S_call hci rfl|exact S_bytes_str (l:=identR b.region) Tryz.underlying5 Tryz.underlying9 rfl|exact S_bytes_str (l:=identR c.region) Tryz.underlying5 Tryz.underlying9 rfl|exact as_bool (S_neqs rfl rfl) (decide_eq_false hsame)|exact qMo));constructor)|refine qP ?_)
  exact loop_again (k+1) hlt (by omega) (Wk_g some rfl rfl kqp)
 ·repeat' (first|refine qU ?_|refine qW ?_|((first|apply dX rfl|apply Da rfl rfl|apply Db rfl rfl qN);(focus ((try intro hg);first|exact qMo));constructor)|refine qP ?_)
  refine ret1 rfl qF ?_
  rfl
end Go.Proofs.YtcdhlofhhcgohaaGreat
