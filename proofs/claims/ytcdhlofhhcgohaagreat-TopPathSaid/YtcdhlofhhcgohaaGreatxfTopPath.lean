/- Law: TopPath. -/
import Derived.Test.YtcdhlofhhcgohaaGreatxcBo1
import Derived.Test.YtcdhlofhhcgohaaGreatxcPth
import Derived.Test.YtcdhlofhhcgohaaGreatxdLnS
namespace Go.Proofs.YtcdhlofhhcgohaaGreat
open Go.RowKit
theorem frm_okP {d s:Int} (h1:0≤d∧d≤18446744073709551615) (h2:0≤s∧s≤18446744073709551615):Frame.ok ⟨d,s,false,0,false,0,2048,[]⟩ :=
 ⟨h1.1,h1.2,h2.1,h2.2,by show(-9223372036854775808:Int)≤0;decide,by show(0:Int)≤9223372036854775807;decide,by show(-9223372036854775808:Int)≤0;decide,by show(0:Int)≤9223372036854775807;decide,by show(-9223372036854775808:Int)≤2048;decide,by show(2048:Int)≤9223372036854775807;decide,by show 0≤9223372036854775807;decide⟩
theorem sendX {n:Net} {t:List (List Mind)} (hg:n.good) (hone:∀ b∈n.bridges,b.region=regR) (hX:∀ b:Int,0≤b→b<n.bridges.length→gatesOf n t b 7=gatesX n.links b 7) (hl:t.length=1) {bs:List (List Ent)} (hb:bs.length=n.bridges.length) {a:Nat} (ha:a<n.bridges.length) {f:Frame} (ft:f.tagged=false) (fw:f.wrong=0):sendR n t bs a 7 f=goX n 7 41 [⟨a,0,f⟩] [] bs:=by
 unfold sendR
 rw[if_neg (by omega),if_neg (by omega),if_neg (by decide),if_neg (by rw[ft];decide),if_neg (by rw[fw];decide),if_neg (by
  rw[List.any_eq_true]
  rintro⟨b,hb,hx⟩
  rw[hone b hb,hl,decide_eq_true_eq,show treeOf regR.ways 7=0 by decide +kernel]at hx
  omega)]
 exact goX_eq hg hX 41 _ _ _ (fun c hc=>by rw[List.mem_singleton.1 hc];simp only;omega)
theorem path_gates {K:Nat} (h2:2≤K) (hK:K≤12) {t1:List (List Mind)} (ht:goodT (lineN K false) t1) (hk:t1.length=1) {T:Nat} (hT:90≤T):∀ b:Int,0≤b→b<(lineN K false).bridges.length→gatesOf (lineN K false) (ticksN (lineN K false) t1 T) b 7=gatesX (lineN K false).links b 7:=fun b h0 h1=>by
 have hg:=lineN_good hK false
 have hd:=dist_of hg line_one (line_dist K (by omega) (by omega))
 have eb:((b.toNat:Nat):Int)=b:=by omega
 refine gatesX_of hg (by rw[ticks_len];exact hk) h0 (fun p hp=>?_)
 have h:=both_at hg line_one (tree:=0) hd ht (by omega) hT (i:=b.toNat) (by omega) (by rw[eb];exact hp)
 rw[eb]at h
 rw[h]
 have ho:=List.all_eq_true.1 (path_open K (by omega) h2) b.toNat (List.mem_range.2 (by rw[lineN_len]at h1;omega))
 rw[eb,←ports_iso]at ho
 exact List.all_eq_true.1 ho p hp
theorem sent_of {s:Sent} (h:sentB s=true):s=⟨s.seen,s.books,true,(0,0)⟩:=by
 unfold sentB at h
 simp only[Bool.and_eq_true,decide_eq_true_eq]at h
 obtain⟨a,b,c,d⟩:=s
 simp only at h
 rw[h.1,h.2]
theorem bookB_of {bs:List (List Ent)} {k:Nat} (h:bookB bs k=true):bs.length=k∧∀ l∈bs,l.length≤1048576:=by
 unfold bookB at h
 simp only[Bool.and_eq_true,decide_eq_true_eq,List.all_eq_true]at h
 exact⟨h.1,fun l hl=>Nat.le_trans (h.2 l hl) (by decide)⟩
theorem bkX_succ (k i:Nat):bkX k (i+1)=(goX (lineN k false) 7 41 [⟨i,0,frmI i⟩] [] (bkX k i)).books:=rfl
theorem bkX_zero (k:Nat):bkX k 0=List.replicate k []:=rfl
attribute [local irreducible] SStep DW DWin DOps thenQ inBlk loopQ retQ retQG FnF FnG FnI FnM Wk IntKind.wrap IntKind.andI IntKind.orI IntKind.xorI IntKind.andNotI IntKind.shlI IntKind.shrI playA onA ticksN tkN planF portsOf roleF opensT planS lineN sendR goX bkX
set_option maxHeartbeats 8000000 in
theorem law_TopPath (k a b:Int):FnF Tryz.prog 11 [.int .i64 k,.int .i64 a,.int .i64 b] (.bool true):=by
 refine fnF_of Tryz.func11 rfl rfl rfl ?_
 simp only[envOf]
 by_cases c1:k<2
 ·repeat' (first|refine qU ?_|refine qW ?_|((first|apply dX rfl|apply Da rfl rfl|apply Db rfl rfl qN);(focus ((try intro hg);first|exact S_call top_alive rfl|exact qMo));constructor)|refine qP ?_)
  refine ret1 rfl qF ?_
  rfl
 by_cases c2:12<k
 ·repeat' (first|refine qU ?_|refine qW ?_|((first|apply dX rfl|apply Da rfl rfl|apply Db rfl rfl qN);(focus ((try intro hg);first|exact S_call top_alive rfl|exact qMo));constructor)|refine qP ?_)
  refine ret1 rfl qF ?_
  rfl
 by_cases c3:a<0
 ·repeat' (first|refine qU ?_|refine qW ?_|((first|apply dX rfl|apply Da rfl rfl|apply Db rfl rfl qN);(focus ((try intro hg);first|exact S_call top_alive rfl|exact qMo));constructor)|refine qP ?_)
  refine ret1 rfl qF ?_
  rfl
 by_cases c4:k≤a
 ·repeat' (first|refine qU ?_|refine qW ?_|((first|apply dX rfl|apply Da rfl rfl|apply Db rfl rfl qN);(focus ((try intro hg);first|exact S_call top_alive rfl|exact qMo));constructor)|refine qP ?_)
  refine ret1 rfl qF ?_
  rfl
 by_cases c5:b<0
 ·repeat' (first|refine qU ?_|refine qW ?_|((first|apply dX rfl|apply Da rfl rfl|apply Db rfl rfl qN);(focus ((try intro hg);first|exact S_call top_alive rfl|exact qMo));constructor)|refine qP ?_)
  refine ret1 rfl qF ?_
  rfl
 by_cases c6:k≤b
 ·repeat' (first|refine qU ?_|refine qW ?_|((first|apply dX rfl|apply Da rfl rfl|apply Db rfl rfl qN);(focus ((try intro hg);first|exact S_call top_alive rfl|exact qMo));constructor)|refine qP ?_)
  refine ret1 rfl qF ?_
  rfl
 by_cases c7:a=b
 ·repeat' (first|refine qU ?_|refine qW ?_|((first|apply dX rfl|apply Da rfl rfl|apply Db rfl rfl qN);(focus ((try intro hg);first|exact S_call top_alive rfl|exact qMo));constructor)|refine qP ?_)
  refine ret1 rfl qF ?_
  rfl
 obtain⟨K,rfl⟩:∃ K:Nat,k=(K:Int):=⟨k.toNat,by omega⟩
 obtain⟨A,rfl⟩:∃ A:Nat,a=(A:Int):=⟨a.toNat,by omega⟩
 obtain⟨B,rfl⟩:∃ B:Nat,b=(B:Int):=⟨b.toNat,by omega⟩
 have hln:=top_line K (by omega) false
 have htk:=top_ticks 90
 have hg:=lineN_good (k:=K) (by omega) false
 have hty:=lineN_typed K false
 have hw0:(lineN K false).wrong.1=0:=by rw[lineN_wrong (by omega)]
 have hnb:=lineN_len K false
 have hp:=talk_Play (lineN K false) hty 1 [⟨1,90,0,0⟩]
 rw[play_loop (lineN_wrong (by omega) false) (by simp),on_tick (by decide),on_nil]at hp
 have htg:goodT (lineN K false) (ticksN (lineN K false) (start0 (lineN K false) 1) (90:Int).toNat):=ticksN_good (start0_good (by decide)) _
 have htl:(ticksN (lineN K false) (start0 (lineN K false) 1) (90:Int).toNat).length=1:=by rw[ticks_len];simp[start0]
 have hX:=path_gates (K:=K) (by omega) (by omega) (start0_good (n:=lineN K false) (trees:=1) (by decide)) (by simp[start0]) (T:=(90:Int).toNat) (by decide)
 generalize ticksN (lineN K false) (start0 (lineN K false) 1) (90:Int).toNat=t at hp htg htl hX
 have hsd:∀ i:Nat,i<K→∃ seen:List OutF,FnF Tryz.prog 22 [(lineN K false).v,talkV t,.slice ((bkX K i).map bookR),.int .i64 i,.int .i64 7,.agg (frmI i).cells] (.tuple [.slice (seen.map outV),.slice ((bkX K (i+1)).map bookR),.bool true,.agg [.int .i64 0,.int .i64 0]]):=fun i hi=>by
  have hb:=path_bk K (by omega) (by omega) i hi
  rw[Bool.and_eq_true]at hb
  obtain⟨hb1,hb2⟩:=bookB_of hb.2
  have hs:=sendX hg line_one hX htl (bs:=bkX K i) (by rw[hnb];exact hb1) (a:=i) (by rw[hnb];exact hi) (f:=frmI i) rfl (frmI_wrong i (by omega))
  rw[sent_of hb.1,←bkX_succ]at hs
  have hc:=lan_SendR (lineN K false) hty hw0 t htg (by omega) (bkX K i) (by omega) hb2 i 7 (frmI i) (frm_okP (by omega) (by omega))
  rw[hs]at hc
  exact⟨_,hc⟩
 have hpt:=path_to K (by omega) (by omega) A (by omega) B (by omega)
 rw[decide_eq_false (show ¬A=B by omega),Bool.false_or,Bool.and_eq_true,Bool.and_eq_true,decide_eq_true_eq]at hpt
 obtain⟨⟨hp1,hp2⟩,hp3⟩:=hpt
 obtain⟨hb1,hb2⟩:=bookB_of hp2
 have hs:=sendX hg line_one hX htl (bs:=bkX K K) (by rw[hnb];exact hb1) (a:=A) (by rw[hnb];omega) (f:=frmU A B) rfl (frmU_wrong A (by omega) B (by omega))
 rw[sent_of hp1]at hs
 have hc:=lan_SendR (lineN K false) hty hw0 t htg (by omega) (bkX K K) (by omega) hb2 A 7 (frmU A B) (frm_okP (by omega) (by omega))
 rw[hs]at hc
 generalize goX (lineN K false) 7 41 [⟨A,0,frmU A B⟩] [] (bkX K K)=s at hc hp3
 obtain⟨g,hsn⟩:∃ g,s.seen=[((B:Int),g)]:=by
  match hq:s.seen with
  | []=>rw[hq]at hp3;cases hp3
  | [x]=>rw[hq]at hp3;injection hp3 with h1 h2;obtain⟨x1,x2⟩:=x;simp only at h1;subst h1;exact⟨x2,rfl⟩
  | x::y::r=>rw[hq]at hp3;injection hp3 with h1 h2;cases h2
 rw[hsn]at hc
 change FnF _ _ [_,_,_,.int .i64 A,.int .i64 7,.agg (frmU A B).cells] (.tuple [.slice ([((B:Int),g)].map outV),.slice (s.books.map bookR),.bool true,.agg [.int .i64 0,.int .i64 0]])at hc
 clear hX hs hp1 hp2 hp3 hb1 hb2 hg
 change FnF _ _ _ (.tuple [(lineN K false).v,talkV t,faultV (0,0)])at hp
 generalize lineN K false=n at hln hp hsd hc
 repeat' (first|refine qU ?_|refine qW ?_|((first|apply dX rfl|apply Da rfl rfl|apply Db rfl rfl qN);(focus ((try intro hg);first|exact S_call top_alive rfl|exact S_call hln rfl|exact S_call htk rfl|exact S_call hp rfl|exact S_mkD (f:=bookR) (l:=K) (c:=K) ([]:List Ent) rfl rfl rfl rfl (Nat.le_refl _) (by omega) rfl|exact qMo));constructor)|refine qP ?_)
 refine DW_loop (fun i:Nat=>⟨[(1,.dat false (.int .i64 A)),(2,.dat false (.int .i64 B)),(7,.ptr 7 0),(8,.ptr 8 0),(9,.ptr 9 0),(10,.dat true (.slice ((bkX K i).map bookR))),(64,.dat false (.int .i64 K)),(65,.dat true (.int .i64 i))],[(7,.cells false true (n.cells.map (.dat true))),(8,.cells false true [.dat true (.slice (t.map mindsRow))]),(9,.cells false true [.dat true (.int .i64 0),.dat true (.int .i64 0)])],127⟩)
  (fun i=>i≤K) (fun i=>K-i) 0 (Nat.zero_le _) (by rw[bkX_zero];exact Wk_g some rfl rfl kq) (fun i hi=>?_)
 by_cases hlt:i<K
 ·obtain⟨seen,hse⟩:=hsd i hlt
  unfold frmI at hse
  repeat' (first|refine qU ?_|refine qW ?_|((first|apply dX rfl|apply Da rfl rfl|apply Db rfl rfl qN);(focus ((try intro hg);first|exact S_call hse rfl|exact qMo));constructor)|refine qP ?_)
  exact loop_again (i+1) hlt (by omega) (Wk_g some rfl rfl kq)
 ·obtain rfl:i=K:=by omega
  unfold frmU at hc
  have hm:([((B:Int),g)].map outV).length=1:=rfl
  repeat' (first|refine qU ?_|refine qW ?_|((first|apply dX rfl|apply Da rfl rfl|apply Db rfl rfl qN);(focus ((try intro hg);first|exact S_call hc rfl|exact S_ixM (f:=outV) (us := [((B:Int),g)]) rfl rfl (by decide) rfl|exact qMo));constructor)|refine qP ?_)
  refine ret1 rfl qF ?_
  rfl
end Go.Proofs.YtcdhlofhhcgohaaGreat
