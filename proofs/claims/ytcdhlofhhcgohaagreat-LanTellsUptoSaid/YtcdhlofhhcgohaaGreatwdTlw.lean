/- Contract: talk.On at a net without bridges; at any net; talk.Play. -/
import Derived.Test.YtcdhlofhhcgohaaGreatwcMd5
import Derived.Test.YtcdhlofhhcgohaaGreatwcTlo
import Derived.Test.YtcdhlofhhcgohaaGreatwdPlN
import Derived.Test.YtcdhlofhhcgohaaGreatwdTln
namespace Go.Proofs.YtcdhlofhhcgohaaGreat
open Go.RowKit
attribute [local irreducible] SStep DW DWin DOps zaG zaE zaJ retQ zaN FnF FnG FnI Wk IntKind.wrap IntKind.andI IntKind.orI IntKind.xorI IntKind.andNotI IntKind.shlI IntKind.shrI Net.wrong zah idN
set_option maxHeartbeats 4000000 in
theorem ziy (n:Net) (ht:n.typed) (trees:Int):FnF Tryz.prog 12 [n.v,.int .i64 trees] (.tuple [zaO (zbN n trees).1,zb1 (zbN n trees).2]):=by
 refine zal Tryz.func12 rfl rfl rfl ?_
 simp only[zap]
 have hwr:=zcO n ht.wy
 unfold zbN
 by_cases h0n:n.wrong.1≠0
 ·have h0m:¬n.wrong.1=0:=h0n
  rw[if_pos h0n]
  clear h0n
  generalize n.wrong=f at hwr h0m ⊢
  obtain⟨e,i⟩:=f
  have h0':e≠0:=h0m
  repeat' (first|refine qU ?_|refine qW ?_|((first|apply dX rfl|apply Da rfl rfl|apply Db rfl rfl qN);(focus ((try intro hg);first|exact zac hwr rfl|exact qMo));constructor)|refine qP ?_)
  refine retN (.cellA inferInstance rfl rfl rfl rfl qF (.cellA inferInstance rfl rfl rfl rfl qF .nil)) ?_
  rfl
 have h0:n.wrong.1=0:=Decidable.not_not.1 h0n
 have h:=((Net.wrong_iff ht).1 h0).1
 rw[if_neg h0n]
 have hwz:=Net.wrong_zero h0
 rw[hwz]at hwr
 by_cases h1:trees<1∨4<trees
 ·rw[if_pos h1]
  by_cases h2:trees<1
  ·repeat' (first|refine qU ?_|refine qW ?_|((first|apply dX rfl|apply Da rfl rfl|apply Db rfl rfl qN);(focus ((try intro hg);first|exact zac hwr rfl|exact qMo));constructor)|refine qP ?_)
   refine retN (.cellA inferInstance rfl rfl rfl rfl qF (.cellA inferInstance rfl rfl rfl rfl qF .nil)) ?_
   rfl
  ·repeat' (first|refine qU ?_|refine qW ?_|((first|apply dX rfl|apply Da rfl rfl|apply Db rfl rfl qN);(focus ((try intro hg);first|exact zac hwr rfl|exact qMo));constructor)|refine qP ?_)
   refine retN (.cellA inferInstance rfl rfl rfl rfl qF (.cellA inferInstance rfl rfl rfl rfl qF .nil)) ?_
   rfl
 rw[if_neg h1]
 obtain⟨T,rfl⟩:∃ T:Nat,trees=(T:Int):=⟨trees.toNat,by omega⟩
 rw[Int.toNat_natCast]
 have hmb:(n.bridges.map zaj).length=n.bridges.length:=by simp
 have hnb:=h.nb
 have hnl:=h.nl
 repeat' (first|refine qU ?_|refine qW ?_|((first|apply dX rfl|apply Da rfl rfl|apply Db rfl rfl qN);(focus ((try intro hg);first|exact zac hwr rfl|exact qMo));constructor)|refine qP ?_)
 refine zag (fun q:Nat×List (List Mind)=>⟨[(1,.dat false (.int .i64 T)),(2,.ptr 2 0),(4,.ptr 4 0),(5,.ptr 5 0),(7,.ptr 7 0),(29,.dat false (.int .i64 T)),(30,.dat true (.int .i64 q.1))],[(2,.cells false true (n.cells.map (.dat false))),(4,.cells false true [.nil]),(5,.cells false true [.dat true (.int .i64 0),.dat true (.int .i64 0)]),(7,.cells false true [.own 900 q.2.length 0 q.2.length]),(900,.row q.2.length false true 1 (q.2.map zae))],70⟩)
  (fun q=>q.1≤T∧q.2=(start0 n T).take q.1) (fun q=>T-q.1) (0,[]) ⟨Nat.zero_le _,rfl⟩
  (Wk_g (fun g=>if g=900 then none else some g) rfl rfl kq) (fun q hR=>?_)
 obtain⟨k,us⟩:=q
 obtain⟨hk,hus⟩:=hR
 simp only at hk hus
 dsimp only
 have hsl:(start0 n T).length=T:=by simp[start0]
 have hul:us.length=k:=by rw[hus,List.length_take];omega
 by_cases hlt:k<T
 ·have hst:(start0 n T).take (k+1)=us++[(List.range n.bridges.length).map (mind0 n k)]:=by
   have:(start0 n T)[k]? = some ((List.range n.bridges.length).map (mind0 n k)):=by simp[start0,hlt]
   rw[List.take_add_one,this,hus];rfl
  repeat' (first|refine qU ?_|refine qW ?_|((first|apply dX rfl|apply Da rfl rfl|apply Db rfl rfl qN);(focus ((try intro hg);first|exact qMo));constructor)|refine qP ?_)
  refine zag (fun q:Nat×List Mind=>⟨[(1,.dat false (.int .i64 T)),(2,.ptr 2 0),(4,.ptr 4 0),(5,.ptr 5 0),(7,.ptr 7 0),(29,.dat false (.int .i64 T)),(30,.dat true (.int .i64 k)),(8,.dat true (.int .i64 k)),(9,.own 901 0 0 q.2.length),(34,.dat false (.slice (n.bridges.map zaj))),(35,.dat true (.int .i64 (n.bridges.map zaj).length)),(36,.dat true (.int .i64 q.1))],
    [(2,.cells false true (n.cells.map (.dat false))),(4,.cells false true [.nil]),(5,.cells false true [.dat true (.int .i64 0),.dat true (.int .i64 0)]),(7,.cells false true [.own 900 us.length 0 us.length]),(900,.row us.length false true 1 (us.map zae)),(901,.row 0 false true 9 (q.2.map Mind.cells))],70⟩)
   (fun q=>q.1≤n.bridges.length∧q.2=(List.range q.1).map (mind0 n k)) (fun q=>n.bridges.length-q.1) (0,[]) ⟨Nat.zero_le _,rfl⟩
   (Wk_g (fun g=>if g=901 then none else some g) rfl rfl kqp) (fun q hR=>?_)
  obtain⟨j,vs⟩:=q
  obtain⟨hj,hvs⟩:=hR
  simp only at hj hvs
  dsimp only
  have hvl:vs.length=j:=by rw[hvs];simp
  by_cases hlj:j<n.bridges.length
  ·have hx:n.bridges[(j:Int).toNat]? = some n.bridges[j]:=by simp[hlj]
   have hx':n.bridges[j]? = some n.bridges[j]:=by simp[hlj]
   have hbo:=h.br n.bridges[j] (List.getElem_mem hlj)
   have hidn:=zmH (tree:=(k:Int)) hx'
   have hid:=zh8 n.bridges[j] hbo k
   rw[←hidn]at hid
   generalize n.bridges[j]=b at hx hid
   have hpo:=zen n hnl j
   have hst2:(List.range (j+1)).map (mind0 n k)=vs++[mind0 n k j]:=by rw[List.range_succ,List.map_append,hvs];rfl
   have hm0:mind0 n k j=⟨⟨idN n k j,0,idN n k j,0⟩,0, -1,zah n.links j,List.replicate (zah n.links j).length 0,List.replicate (zah n.links j).length 0⟩:=by
    unfold mind0
    rw[List.map_const']
   have hpl:(zah n.links j).length≤80:=by
    have:=zbz n.links j
    rw[zaW];unfold zcj;rw[List.length_mergeSort];omega
   rw[hm0]at hst2
   generalize zah n.links j=ps at hpo hst2 hpl
   generalize idN n k j=me at hid hst2
   have hmp:(ps.map zad).length=ps.length:=by simp
   repeat' (first|refine qU ?_|refine qW ?_|((first|apply dX rfl|apply Da rfl rfl|apply Db rfl rfl qN);(focus ((try intro hg);first|exact zaf rfl rfl (by omega) hx|exact zac hid rfl|exact zac hpo rfl|exact ztB (f:=zad) (l:=ps.length) (c:=ps.length) (0:Int) rfl rfl (by rw[hmp]) (by rw[hmp]) (Nat.le_refl _) (by omega) rfl|exact zan (f:=Mind.cells) (us:=vs) (bs := [⟨⟨me,0,me,0⟩,0, -1,ps,List.replicate ps.length 0,List.replicate ps.length 0⟩]) rfl rfl (.dat _ _) rfl rfl (.inl rfl) rfl (by simp only[List.length_singleton];omega)|exact qMo));constructor)|refine qP ?_)
   exact zaa (j+1,vs++[⟨⟨me,0,me,0⟩,0, -1,ps,List.replicate ps.length 0,List.replicate ps.length 0⟩]) ⟨hlj,hst2.symm⟩ (by simp only;omega) (Wk_g some rfl rfl kqp)
  ·have he:vs=(List.range n.bridges.length).map (mind0 n k):=by rw[hvs,show j=n.bridges.length by omega]
   refine zaR 9 rfl rfl (by simp) ?_
   repeat' (first|refine qU ?_|refine qW ?_|((first|apply dX rfl|apply Da rfl rfl|apply Db rfl rfl qN);(focus ((try intro hg);first|exact zan (f:=zae) (us:=us) (bs := [vs]) rfl rfl (.dat _ _) rfl rfl (.inl rfl) rfl (by simp only[List.length_singleton];omega)|exact qMo));constructor)|refine qP ?_)
   exact zaa (k+1,us++[vs]) ⟨hlt,by rw[hst,he]⟩ (by simp only;omega) (Wk_g some rfl rfl kqp)
 ·have he:us=start0 n T:=by rw[hus,List.take_of_length_le (by omega)]
  refine zaZ (s':=⟨[(4,.ptr 4 0),(5,.ptr 5 0),(7,.ptr 7 0),(29,.dat false (.int .i64 T)),(30,.dat true (.int .i64 k))],[(2,.cells false true (n.cells.map (.dat false))),(4,.cells false true [.nil]),(5,.cells false true [.dat true (.int .i64 0),.dat true (.int .i64 0)]),(7,.cells false true [.own 900 0 0 us.length]),(900,.row 0 false true 1 (us.map zae))],70⟩) (Wk_g some rfl rfl kqp) ?_
  refine zaD 900 (fun _ _ _ h=>by cases h) ?_
  repeat' (first|refine qU ?_|refine qW ?_|((first|apply dX rfl|apply Da rfl rfl|apply Db rfl rfl qN);(focus ((try intro hg);first|exact qMo));constructor)|refine qP ?_)
  refine retN (.cellA inferInstance rfl rfl rfl rfl qF (.cellA inferInstance rfl rfl rfl rfl qF .nil)) ?_
  rw[he]
  show V.tuple [V.agg [V.slice (List.take _ (List.drop 0 _))],_]=_
  rw[List.drop_zero,List.take_of_length_le (by simp)]
  rfl
end Go.Proofs.YtcdhlofhhcgohaaGreat
namespace Go.Proofs.YtcdhlofhhcgohaaGreat
open Go.RowKit
def net0 : Net:=⟨[],[]⟩
theorem ztm {n:Net} (h:n.good) (he:n.bridges=[]):n=net0:=by
 have hl:n.links=[]:=by
  cases hl:n.links with
  | nil=>rfl
  | cons l r =>
   have:=h.lk l (by rw[hl];simp)
   have h1:=this.a1
   have h2:=this.a0
   rw[he]at h1
   simp at h1
   omega
 obtain⟨b,l⟩:=n
 simp only at he hl
 subst he;subst hl;rfl
theorem zrL (d:Doing):(doS net0 d).2≠0:=by
 unfold doS
 repeat' split
 all_goals first
  | (simp;done)
  | (exfalso;simp[net0]at *;omega)
attribute [local irreducible] SStep DW DWin DOps zaG zaE zaJ retQ zaN FnF FnG FnI FnM Wk IntKind.wrap IntKind.andI IntKind.orI IntKind.xorI IntKind.andNotI IntKind.shlI IntKind.shrI Net.wrong idsR zaL za3 zah
theorem zp1 : FnF Tryz.prog 52 [.agg [V.slice [],V.slice []]] (.agg [V.slice [],V.slice []]):=by
 refine zal Tryz.func52 rfl rfl rfl ?_
 simp only[zap]
 have hcb:=zeA [] (by decide)
 have hcl:=zf4 [] (by decide)
 repeat' (first|refine zcY 1 (bx := .cells false true [.own 940 1 0 0,.own 941 1 0 0]) rfl ?_|refine qU ?_|(apply dt rfl;case h=>first|exact zaB 940 hcb rfl rfl (.own _ _)|exact zaB 941 hcl rfl rfl (.own _ _))|((first|apply dX rfl|apply Da rfl rfl|apply Db rfl rfl qN);(focus ((try intro hg);first|exact zaB 940 hcb rfl rfl (.own _ _)|exact zaB 941 hcl rfl rfl (.own _ _)|exact qM));constructor)|refine qP ?_)
 intro _
 refine zaZ (s':=⟨[(1,.ptr 1 0),(2,.ptr 2 0)],[(1,.cells false true [.own 940 0 0 0,.own 941 0 0 0]),(2,.cells false true [.nil,.nil]),(940,.row 0 false false 5 []),(941,.row 0 false true 6 [])],41⟩) (Wk_g some rfl rfl kqp) ?_
 refine zaD 940 (fun _ _ _ h=>by cases h) ?_
 refine zaD 941 (fun _ _ _ h=>by cases h) ?_
 repeat' (first|refine qU ?_|refine qW ?_|((first|apply dX rfl|apply Da rfl rfl|apply Db rfl rfl qN);(focus ((try intro hg);first|exact qMo));constructor)|refine qP ?_)
 refine zag (fun _:Unit=>⟨[(1,.ptr 1 0),(2,.ptr 2 0),(15,.dat true (.int .i64 0)),(16,.dat true (.int .i64 0))],[(1,.cells false true [.dat false (.slice []),.dat true (.slice [])]),(2,.cells false true [.nil,.nil])],41⟩)
  (fun _=>True) (fun _=>0) () trivial (Wk_g some rfl rfl kqp) (fun _ _=>?_)
 repeat' (first|refine qU ?_|refine qW ?_|((first|apply dX rfl|apply Da rfl rfl|apply Db rfl rfl qN);(focus ((try intro hg);first|exact qMo));constructor)|refine qP ?_)
 refine retN (.cellA inferInstance rfl rfl rfl rfl qF .nil) ?_
 rfl
theorem ztn (d:Doing):FnF Tryz.prog 104 [.rp [V.slice [],V.slice []],.rp d.cells] (.int .i64 6):=by
 refine zal Tryz.func104 rfl rfl rfl ?_
 simp only[zap]
 have hz:(([]:List (List V)).length:Int)=0:=rfl
 by_cases h0:d.n<0
 ·repeat' (first|refine qU ?_|refine qW ?_|((first|apply dX rfl|apply Da rfl rfl|apply Db rfl rfl qN);(focus ((try intro hg);first|exact qMo));constructor)|refine qP ?_)
  refine ret1 rfl qF ?_
  rfl
 ·repeat' (first|refine qU ?_|refine qW ?_|((first|apply dX rfl|apply Da rfl rfl|apply Db rfl rfl qN);(focus ((try intro hg);first|exact qMo));constructor)|refine qP ?_)
  refine ret1 rfl qF ?_
  rfl
set_option maxHeartbeats 4000000 in
theorem do_E (d:Doing):FnF Tryz.prog 57 [.rp [V.slice [],V.slice []],.rp d.cells] (.int .i64 (doS net0 d).2):=by
 refine zal Tryz.func57 rfl rfl rfl ?_
 simp only[zap]
 have hz:(([]:List (List V)).length:Int)=0:=rfl
 have hz1:(net0.links.length:Int)=0:=rfl
 have hz2:(net0.bridges.length:Int)=0:=rfl
 by_cases hq:d.kind=2∨d.kind=3∨d.kind=4
 ·rw[zjz (n:=net0) hq (by omega)]
  rcases hq with hk|hk|hk<;>by_cases h0:d.n<0
  ·repeat' (first|refine qU ?_|refine qW ?_|((first|apply dX rfl|apply Da rfl rfl|apply Db rfl rfl qN);(focus ((try intro hg);first|exact qMo));constructor)|refine qP ?_)
   refine ret1 rfl qF ?_
   rfl
  ·repeat' (first|refine qU ?_|refine qW ?_|((first|apply dX rfl|apply Da rfl rfl|apply Db rfl rfl qN);(focus ((try intro hg);first|exact qMo));constructor)|refine qP ?_)
   refine ret1 rfl qF ?_
   rfl
  ·repeat' (first|refine qU ?_|refine qW ?_|((first|apply dX rfl|apply Da rfl rfl|apply Db rfl rfl qN);(focus ((try intro hg);first|exact qMo));constructor)|refine qP ?_)
   refine ret1 rfl qF ?_
   rfl
  ·repeat' (first|refine qU ?_|refine qW ?_|((first|apply dX rfl|apply Da rfl rfl|apply Db rfl rfl qN);(focus ((try intro hg);first|exact qMo));constructor)|refine qP ?_)
   refine ret1 rfl qF ?_
   rfl
  ·repeat' (first|refine qU ?_|refine qW ?_|((first|apply dX rfl|apply Da rfl rfl|apply Db rfl rfl qN);(focus ((try intro hg);first|exact qMo));constructor)|refine qP ?_)
   refine ret1 rfl qF ?_
   rfl
  ·repeat' (first|refine qU ?_|refine qW ?_|((first|apply dX rfl|apply Da rfl rfl|apply Db rfl rfl qN);(focus ((try intro hg);first|exact qMo));constructor)|refine qP ?_)
   refine ret1 rfl qF ?_
   rfl
 ·by_cases h5:d.kind=5
  ·rw[zht (n:=net0) h5 (by omega)]
   repeat' (first|refine qU ?_|refine qW ?_|((first|apply dX rfl|apply Da rfl rfl|apply Db rfl rfl qN);(focus ((try intro hg);first|exact zac (ztn d) rfl|exact qMo));constructor)|refine qP ?_)
   refine ret1 rfl qF ?_
   rfl
  ·rw[zjA (n:=net0) (by omega) (by omega) (by omega) h5]
   repeat' (first|refine qU ?_|refine qW ?_|((first|apply dX rfl|apply Da rfl rfl|apply Db rfl rfl qN);(focus ((try intro hg);first|exact qMo));constructor)|refine qP ?_)
   refine ret1 rfl qF ?_
   rfl
set_option maxHeartbeats 4000000 in
theorem zrM (ht:net0.typed) (h0:net0.wrong.1=0) (t:List (List Mind)) (htt:goodT net0 t) (h1:1≤t.length) (l:List Doing) (hl:l.length≤30):FnF Tryz.prog 20 [net0.v,zaO t,.slice (l.map Doing.cells)] (onV (zaX 0 l net0 t)):=by
 refine zal Tryz.func20 rfl rfl rfl ?_
 simp only[zap,zaO]
 have hwr:=zcO net0 ht.wy
 rw[Net.wrong_zero h0]at hwr
 have h:=((Net.wrong_iff ht).1 h0).1
 have hri:=zfH net0 h t htt h1
 have hml:(l.map Doing.cells).length=l.length:=by simp
 have hrg:=zfX net0 (fun b hb=>(h.br b hb).r) h.nb
 have hmi:=zk3 net0 h t htt
 repeat' (first|refine qU ?_|refine qW ?_|((first|apply dX rfl|apply Da rfl rfl|apply Db rfl rfl qN);(focus ((try intro hg);first|exact zac hwr rfl|exact zac hri rfl|exact zac zp1 rfl|exact zac hrg rfl|exact zac hmi rfl|exact qMo));constructor)|refine qP ?_)
 refine zag (fun q:Nat×List (List Mind)=>⟨[(2,.dat false (.slice (l.map Doing.cells))),(3,.ptr 3 0),(4,.ptr 4 0),(6,.ptr 6 0),(7,.ptr 7 0),(8,.ptr 8 0),(10,.dat true (.slice ((idsR net0.bridges).map zbe))),(39,.dat false (.slice (l.map Doing.cells))),(40,.dat true (.int .i64 (l.map Doing.cells).length)),(41,.dat true (.int .i64 q.1))],[(4,.cells false true [.dat true (.slice (q.2.map zae))]),(3,.cells false true [.dat true (.slice []),.dat true (.slice [])]),(6,.cells false true [.nil,.nil]),(7,.cells false true [.nil]),(8,.cells false true [.dat true (.int .i64 0),.dat true (.int .i64 0)])],93⟩)
  (fun q=>q.1≤l.length∧goodT net0 q.2∧zaX 0 l net0 t=zaX q.1 (l.drop q.1) net0 q.2) (fun q=>l.length-q.1) (0,t) ⟨Nat.zero_le _,htt,rfl⟩
  (Wk_g some rfl rfl kqp) (fun q hR=>?_)
 obtain⟨i,u⟩:=q
 obtain⟨hi,hgu,hon⟩:=hR
 simp only at hi hgu hon
 dsimp only
 rw[hon]
 by_cases hlt:i<l.length
 ·have hx:l[(i:Int).toNat]? = some l[i]:=by simp[hlt]
  have hdr:l.drop i=l[i]::l.drop (i+1):=List.drop_eq_getElem_cons hlt
  rw[hdr,zaX]
  generalize l[i]=d at hx hdr
  by_cases hk1:d.kind=1
  ·rw [if_pos hk1]
   by_cases hb:d.n<0∨200<d.n
   ·rw[if_pos hb]
    by_cases hb1:d.n<0
    ·repeat' (first|refine qU ?_|refine qW ?_|((first|apply dX rfl|apply Da rfl rfl|apply Db rfl rfl qN);(focus ((try intro hg);first|exact zaf rfl rfl (by omega) hx|exact qMo));constructor)|refine qP ?_)
     refine retN (.cellA inferInstance rfl rfl rfl rfl qF (.cellA inferInstance rfl rfl rfl rfl qF (.cellA inferInstance rfl rfl rfl rfl qF .nil))) ?_
     rfl
    ·repeat' (first|refine qU ?_|refine qW ?_|((first|apply dX rfl|apply Da rfl rfl|apply Db rfl rfl qN);(focus ((try intro hg);first|exact zaf rfl rfl (by omega) hx|exact qMo));constructor)|refine qP ?_)
     refine retN (.cellA inferInstance rfl rfl rfl rfl qF (.cellA inferInstance rfl rfl rfl rfl qF (.cellA inferInstance rfl rfl rfl rfl qF .nil))) ?_
     rfl
   ·rw[if_neg hb]
    obtain⟨T,hT⟩:∃ T:Nat,d.n=(T:Int):=⟨d.n.toNat,by omega⟩
    rw[hT,Int.toNat_natCast]
    have hen:=zk6 net0 h
    repeat' (first|refine qU ?_|refine qW ?_|((first|apply dX rfl|apply Da rfl rfl|apply Db rfl rfl qN);(focus ((try intro hg);first|exact zaf rfl rfl (by omega) hx|exact zac hen rfl|exact qMo));constructor)|refine qP ?_)
    refine zag (fun k:Nat=>⟨[(2,.dat false (.slice (l.map Doing.cells))),(3,.ptr 3 0),(4,.ptr 4 0),(6,.ptr 6 0),(7,.ptr 7 0),(8,.ptr 8 0),(10,.dat true (.slice ((idsR net0.bridges).map zbe))),(39,.dat false (.slice (l.map Doing.cells))),(40,.dat true (.int .i64 (l.map Doing.cells).length)),(41,.dat true (.int .i64 i)),(13,.dat true (.slice (((List.range net0.bridges.length).map (zaL net0)).map zdK))),(73,.dat false (.int .i64 d.n)),(74,.dat true (.int .i64 k))],[(4,.cells false true [.dat true (.slice ((zc1 net0 u k).map zae))]),(3,.cells false true [.dat true (.slice []),.dat true (.slice [])]),(6,.cells false true [.nil,.nil]),(7,.cells false true [.nil]),(8,.cells false true [.dat true (.int .i64 0),.dat true (.int .i64 0)])],93⟩)
     (fun k=>k≤T) (fun k=>T-k) 0 (Nat.zero_le _) (Wk_g some rfl rfl kqp) (fun k hk=>?_)
    by_cases hlk:k<T
    ·have htk:=zk5 net0 h (zc1 net0 u k) (zbE hgu k)
     repeat' (first|refine qU ?_|refine qW ?_|((first|apply dX rfl|apply Da rfl rfl|apply Db rfl rfl qN);(focus ((try intro hg);first|exact zac htk rfl|exact qMo));constructor)|refine qP ?_)
     exact zaa (k+1) hlk (by omega) (Wk_g some rfl rfl kqp)
    ·have hkT:k=T:=by omega
     subst hkT
     repeat' (first|refine qU ?_|refine qW ?_|((first|apply dX rfl|apply Da rfl rfl|apply Db rfl rfl qN);(focus ((try intro hg);first|exact qMo));constructor)|refine qP ?_)
     exact zaa (i+1,zc1 net0 u k) ⟨hlt,zbE hgu k,rfl⟩ (by simp only;omega) (Wk_g some rfl rfl kqp)
  ·rw[if_neg hk1]
   have hd:=do_E d
   have hne:=zrL d
   generalize doS net0 d=r at hd hne ⊢
   obtain⟨n',e⟩:=r
   dsimp only at hd hne ⊢
   rw[if_pos hne]
   have hne':¬e=0:=hne
   repeat' (first|refine qU ?_|refine qW ?_|((first|apply dX rfl|apply Da rfl rfl|apply Db rfl rfl qN);(focus ((try intro hg);first|exact zaf rfl rfl (by omega) hx|exact zac hd rfl|exact qMo));constructor)|refine qP ?_)
   refine retN (.cellA inferInstance rfl rfl rfl rfl qF (.cellA inferInstance rfl rfl rfl rfl qF (.cellA inferInstance rfl rfl rfl rfl qF .nil))) ?_
   rfl
 ·have hdr:l.drop i=[]:=List.drop_eq_nil_of_le (by omega)
  rw[hdr,zaX]
  repeat' (first|refine qU ?_|refine qW ?_|((first|apply dX rfl|apply Da rfl rfl|apply Db rfl rfl qN);(focus ((try intro hg);first|exact qMo));constructor)|refine qP ?_)
  refine retN (.cellA inferInstance rfl rfl rfl rfl qF (.cellA inferInstance rfl rfl rfl rfl qF (.cellA inferInstance rfl rfl rfl rfl qF .nil))) ?_
  rfl
theorem zhv (n:Net) (ht:n.typed) (t:List (List Mind)) (hf:n.wrong.1=0→goodT n t∧1≤t.length) (l:List Doing):FnF Tryz.prog 20 [n.v,zaO t,.slice (l.map Doing.cells)] (onV (onA n t l)):=by
 unfold onA
 by_cases h0:n.wrong.1≠0
 ·rw[if_pos h0];exact zrI n ht h0 t l
 ·rw [if_neg h0]
  have h0:n.wrong.1=0:=Decidable.not_not.1 h0
  obtain⟨htt,h1⟩:=hf h0
  by_cases hl:30<l.length
  ·rw[if_pos hl];exact zrJ n ht h0 t htt h1 l hl
  ·rw[if_neg hl]
   by_cases he:n.bridges=[]
   ·have:=ztm ((Net.wrong_iff ht).1 h0).1 he
    subst this
    exact zrM ht h0 t htt h1 l (by omega)
   ·exact zrK n ht h0 t htt h1 l (by omega) he
end Go.Proofs.YtcdhlofhhcgohaaGreat
