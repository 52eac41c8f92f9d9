/- Contracts: whether a way's frames pass a gate, of relay and of the document; the way of a frame; a frame as it leaves; slices.BinarySearch. -/
import Derived.Test.YtcdhlofhhcgohaaGreatwcSh
namespace Go.Proofs.YtcdhlofhhcgohaaGreat
open Go.RowKit
theorem zis {g:Gate} (h:g.bad):g.wrong1=3:=by unfold Gate.wrong1;rw[if_pos h]
theorem zhh {g:Gate} (h:¬g.bad) (k:16<g.opens.length):g.wrong1=5:=by unfold Gate.wrong1;rw[if_neg h,if_pos k]
theorem zhi {g:Gate} (h:¬g.bad) (k:¬ 16<g.opens.length):g.wrong1=zfF 0 g.ways:=by unfold Gate.wrong1;rw[if_neg h,if_neg k]
attribute [local irreducible] SStep DW DWin DOps zaG zaE zaJ retQ zaN FnF FnG Wk IntKind.wrap IntKind.andI IntKind.orI IntKind.xorI IntKind.andNotI IntKind.shlI IntKind.shrI
set_option maxHeartbeats 4000000 in
theorem zlW (l:List Gate):FnF Tryz.prog 111 [.slice (l.map zaM)] (zb1 (zcz l)):=by
 refine zal Tryz.func111 rfl rfl rfl ?_
 simp only[zap]
 refine zbY 0 rfl (fun hlen=>?_)
 have hml:(l.map zaM).length=l.length:=by simp
 unfold zcz
 repeat' (first|refine qU ?_|((first|apply dX rfl|apply Da rfl rfl|apply Db rfl rfl qN);(focus ((try intro hg);first|exact qM));constructor)|refine qP ?_)
 refine zag (fun k:Nat=>⟨[(0,.dat false (.slice (l.map zaM))),(2,.ptr 2 0),(7,.dat false (.slice (l.map zaM))),(8,.dat true (.int .i64 (l.map zaM).length)),(9,.dat true (.int .i64 k))],[(2,.cells false true [.dat true (.int .i64 0),.dat true (.int .i64 0)])],88⟩)
  (fun k=>k≤l.length∧zey none 0 l=zey (zga l k) k (l.drop k)) (fun k=>l.length-k) 0 ⟨Nat.zero_le _,rfl⟩
  (Wk_g some rfl rfl kq) (fun k hR=>?_)
 obtain⟨hk,hw⟩:=hR
 by_cases hlt:k<l.length
 case neg =>
  repeat' (first|refine qU ?_|((first|apply dX rfl|apply Da rfl rfl|apply Db rfl rfl qN);(focus ((try intro hg);first|exact zab (zam rfl rfl) (decide_eq_false (by omega:¬(k:Int)<((l.map zaM).length:Int)))|exact qM));constructor)|refine qP ?_)
  rw[hw,List.drop_eq_nil_of_le (by omega)]
  refine retN (.cellA inferInstance rfl rfl rfl rfl qF .nil) ?_
  rfl
 have hx:l[(k:Int).toNat]? = some l[k]:=by simp[hlt]
 have hn:l.drop k=l[k]::l.drop (k+1):=List.drop_eq_getElem_cons hlt
 have hlast:zga l (k+1)=some l[k].port:=by simp[zga,hlt]
 generalize l[k]=g at hx hn hlast
 rw[hn,zey]at hw
 have hmo:(g.opens.map zbA).length=g.opens.length:=by simp
 have hmw:(g.ways.map zad).length=g.ways.length:=by simp
 repeat' (first|refine qU ?_|refine zat rfl (fun hb=>?_) (fun hb=>?_)|((first|apply dX rfl|apply Da rfl rfl|apply Db rfl rfl qN);(focus ((try intro hg);first|exact zab (zam rfl rfl) (decide_eq_true (by omega:(k:Int)<((l.map zaM).length:Int)))|exact zaf rfl rfl (by omega) hx|exact qM));constructor)|refine qP ?_)
 ·simp only[Bool.or_eq_true,decide_eq_true_eq]at hb
  have hg:g.bad:=by unfold Gate.bad;omega
  rw[hw,zis hg]
  refine retN (.cellA inferInstance rfl rfl rfl rfl qF .nil) ?_
  rfl
 ·rename_i hb1
  simp only[Bool.or_eq_false_iff,decide_eq_true_eq,decide_eq_false_iff_not]at hb hb1
  have hg:¬g.bad:=by unfold Gate.bad;omega
  rw[hw,zhh hg (by omega)]
  refine retN (.cellA inferInstance rfl rfl rfl rfl qF .nil) ?_
  rfl
 rename_i hb1
 simp only[Bool.or_eq_false_iff,decide_eq_false_iff_not]at hb hb1
 have hg:¬g.bad:=by unfold Gate.bad;omega
 rw[zhi hg (by omega)]at hw
 refine zbY 41 rfl (fun hlen2=>?_)
 refine zag (fun j:Nat=>⟨[(0,.dat false (.slice (l.map zaM))),(2,.ptr 2 0),(3,.dat true (.int .i64 k)),(4,.ptr 4 0),(7,.dat false (.slice (l.map zaM))),(8,.dat true (.int .i64 (l.map zaM).length)),(9,.dat true (.int .i64 k)),(41,.dat false (.slice (g.ways.map zad))),(42,.dat true (.int .i64 (g.ways.map zad).length)),(43,.dat true (.int .i64 j))],
   [(2,.cells false true [.dat true (.int .i64 0),.dat true (.int .i64 0)]),(4,.cells false true [.dat false (.int .i64 g.port),.dat false (.slice (g.ways.map zad)),.dat false (.int .i64 g.plain),.dat false (.slice (g.opens.map zbA))])],88⟩)
  (fun j=>j≤g.ways.length∧zfF 0 g.ways=zfF (zg8 g.ways j) (g.ways.drop j)) (fun j=>g.ways.length-j) 0 ⟨Nat.zero_le _,rfl⟩
  (Wk_g some rfl rfl kq) (fun j hR=>?_)
 obtain⟨hj,hv⟩:=hR
 by_cases hlj:j<g.ways.length
 ·have hy:g.ways[(j:Int).toNat]? = some g.ways[j]:=by simp[hlj]
  have hm:g.ways.drop j=g.ways[j]::g.ways.drop (j+1):=List.drop_eq_getElem_cons hlj
  have hla:zg8 g.ways (j+1)=g.ways[j]:=by simp[zg8,hlj]
  generalize g.ways[j]=v at hy hm hla
  rw[hm,zfF]at hv
  rcases j with - | i
  ·have h00:zg8 g.ways 0=0:=rfl
   rw[h00]at hv
   repeat' (first|refine qU ?_|refine zat rfl (fun hc=>?_) (fun hc=>?_)|((first|apply dX rfl|apply Da rfl rfl|apply Db rfl rfl qN);(focus ((try intro hg);first|exact zab (zam rfl rfl) (decide_eq_true (by omega:((0:Nat):Int)<((g.ways.map zad).length:Int)))|exact zaf rfl rfl (by omega) hy|exact zab (b:=false) (zbr rfl rfl) rfl|exact qM));constructor)|refine qP ?_)
   ·simp only[Bool.or_eq_true,decide_eq_true_eq]at hc
    rw[if_pos hc]at hv
    rw[hw,hv]
    refine retN (.cellA inferInstance rfl rfl rfl rfl qF .nil) ?_
    rfl
   ·simp only[Bool.or_eq_false_iff,decide_eq_false_iff_not]at hc
    rw[if_neg (by omega),if_neg (by omega)]at hv
    exact zaa (0+1) ⟨hlj,by rw[hv,hla]⟩ (by omega) (Wk_g some rfl rfl kq)
  ·have hi:i<g.ways.length:=by omega
   have hy2:g.ways[(((i+1:Nat):Int)-1).toNat]? = some g.ways[i]:=by
    rw[show(((i+1:Nat):Int)-1).toNat=i by omega];exact List.getElem?_eq_getElem hi
   have h00:zg8 g.ways (i+1)=g.ways[i]:=by simp[zg8,hi]
   generalize g.ways[i]=q at hy2 h00
   rw[h00]at hv
   repeat' (first|refine qU ?_|refine zat rfl (fun hc=>?_) (fun hc=>?_)|((first|apply dX rfl|apply Da rfl rfl|apply Db rfl rfl qN);(focus ((try intro hg);first|exact zab (zam rfl rfl) (decide_eq_true (by omega:((i+1:Nat):Int)<((g.ways.map zad).length:Int)))|exact zaf rfl rfl (by omega) hy|exact zaf rfl rfl (by omega) hy2|exact zab (zbr rfl rfl) (decide_eq_true (by omega:(0:Int)<((i+1:Nat):Int)))|exact qM));constructor)|refine qP ?_)
   ·simp only[Bool.or_eq_true,decide_eq_true_eq]at hc
    rw[if_pos hc]at hv
    rw[hw,hv]
    refine retN (.cellA inferInstance rfl rfl rfl rfl qF .nil) ?_
    rfl
   ·rename_i hc1
    simp only[Bool.or_eq_false_iff,decide_eq_true_eq,decide_eq_false_iff_not]at hc hc1
    rw[if_neg (by omega),if_pos hc]at hv
    rw[hw,hv]
    refine retN (.cellA inferInstance rfl rfl rfl rfl qF .nil) ?_
    rfl
   ·rename_i hc1
    simp only[Bool.or_eq_false_iff,decide_eq_false_iff_not]at hc hc1
    rw[if_neg (by omega),if_neg hc]at hv
    exact zaa (i+1+1) ⟨by omega,by rw[hv,hla]⟩ (by omega) (Wk_g some rfl rfl kq)
 rw[List.drop_eq_nil_of_le (by omega)]at hv
 have hv0:zfF 0 g.ways=0:=hv
 rw[hv0,if_neg (by simp)]at hw
 rcases k with - | i
 ·have h00:zga l 0=none:=rfl
  rw[h00,if_neg (by simp)]at hw
  repeat' (first|refine qU ?_|((first|apply dX rfl|apply Da rfl rfl|apply Db rfl rfl qN);(focus ((try intro hg);first|exact zab (zam rfl rfl) (decide_eq_false (by omega:¬(j:Int)<((g.ways.map zad).length:Int)))|exact zab (b:=false) (zbr rfl rfl) rfl|exact qM));constructor)|refine qP ?_)
  exact zaa (0+1) ⟨hlt,by rw[hw,hlast]⟩ (by omega) (Wk_g some rfl rfl kq)
 ·have hi:i<l.length:=by omega
  have hx2:l[(((i+1:Nat):Int)-1).toNat]? = some l[i]:=by
   rw[show(((i+1:Nat):Int)-1).toNat=i by omega];exact List.getElem?_eq_getElem hi
  have h00:zga l (i+1)=some l[i].port:=by simp[zga,hi]
  generalize l[i]=q at hx2 h00
  rw[h00]at hw
  repeat' (first|refine qU ?_|refine zat rfl (fun hc=>?_) (fun hc=>?_)|((first|apply dX rfl|apply Da rfl rfl|apply Db rfl rfl qN);(focus ((try intro hg);first|exact zab (zam rfl rfl) (decide_eq_false (by omega:¬(j:Int)<((g.ways.map zad).length:Int)))|exact zaf rfl rfl (by omega) hx2|exact zab (zbr rfl rfl) (decide_eq_true (by omega:(0:Int)<((i+1:Nat):Int)))|exact qM));constructor)|refine qP ?_)
  ·simp only[decide_eq_true_eq]at hc
   rw[hw,if_pos (by simpa using hc)]
   refine retN (.cellA inferInstance rfl rfl rfl rfl qF .nil) ?_
   rfl
  ·simp only[decide_eq_false_iff_not]at hc
   rw[if_neg (by simpa using hc)]at hw
   exact zaa (i+1+1) ⟨by omega,by rw[hw,hlast]⟩ (by omega) (Wk_g some rfl rfl kq)
end Go.Proofs.YtcdhlofhhcgohaaGreat
namespace Go.Proofs.YtcdhlofhhcgohaaGreat
open Go.RowKit
attribute [local irreducible] SStep DW DWin DOps zaG zaE zaJ retQ zaN FnF FnG Wk IntKind.wrap IntKind.andI IntKind.orI IntKind.xorI IntKind.andNotI IntKind.shlI IntKind.shrI
theorem zhj (e k:Int):FnF Tryz.prog 147 [.int .i64 e,.rp [.int .i64 k]] (.agg [.int .i64 e,.int .i64 k]):=by
 refine zal Tryz.func147 rfl rfl rfl ?_
 simp only[zap]
 repeat' (first|refine qU ?_|((first|apply dX rfl|apply Da rfl rfl|apply Db rfl rfl qN);(focus ((try intro hg);first|exact qM));constructor)|refine qP ?_)
 refine retN (.cellA inferInstance rfl rfl rfl rfl qF .nil) ?_
 rfl
set_option maxHeartbeats 4000000 in
theorem zhk (l:List Gate):FnF Tryz.prog 122 [.slice (l.map zaM)] (zb1 (zcz l)):=by
 refine zal Tryz.func122 rfl rfl rfl ?_
 simp only[zap]
 refine zbY 0 rfl (fun hlen=>?_)
 have hml:(l.map zaM).length=l.length:=by simp
 unfold zcz
 repeat' (first|refine qU ?_|((first|apply dX rfl|apply Da rfl rfl|apply Db rfl rfl qN);(focus ((try intro hg);first|exact qM));constructor)|refine qP ?_)
 refine zag (fun k:Nat=>⟨[(0,.dat false (.slice (l.map zaM))),(2,.ptr 2 0),(9,.dat false (.slice (l.map zaM))),(10,.dat true (.int .i64 (l.map zaM).length)),(11,.dat true (.int .i64 k))],[(2,.cells false true [.dat true (.int .i64 0),.dat true (.int .i64 0)])],82⟩)
  (fun k=>k≤l.length∧zey none 0 l=zey (zga l k) k (l.drop k)) (fun k=>l.length-k) 0 ⟨Nat.zero_le _,rfl⟩
  (Wk_g some rfl rfl kq) (fun k hR=>?_)
 obtain⟨hk,hw⟩:=hR
 by_cases hlt:k<l.length
 case neg =>
  repeat' (first|refine qU ?_|((first|apply dX rfl|apply Da rfl rfl|apply Db rfl rfl qN);(focus ((try intro hg);first|exact zab (zam rfl rfl) (decide_eq_false (by omega:¬(k:Int)<((l.map zaM).length:Int)))|exact qM));constructor)|refine qP ?_)
  rw[hw,List.drop_eq_nil_of_le (by omega)]
  refine retN (.cellA inferInstance rfl rfl rfl rfl qF .nil) ?_
  rfl
 have hx:l[(k:Int).toNat]? = some l[k]:=by simp[hlt]
 have hn:l.drop k=l[k]::l.drop (k+1):=List.drop_eq_getElem_cons hlt
 have hlast:zga l (k+1)=some l[k].port:=by simp[zga,hlt]
 generalize l[k]=g at hx hn hlast
 rw[hn,zey]at hw
 have hmo:(g.opens.map zbA).length=g.opens.length:=by simp
 have hmw:(g.ways.map zad).length=g.ways.length:=by simp
 repeat' (first|(apply dm rfl;case h=>exact zcI 3 rfl rfl (zbv rfl))|refine qU ?_|refine zat rfl (fun hb=>?_) (fun hb=>?_)|((first|apply dX rfl|apply Da rfl rfl|apply Db rfl rfl qN);(focus ((try intro hg);first|exact zab (zam rfl rfl) (decide_eq_true (by omega:(k:Int)<((l.map zaM).length:Int)))|exact zaf rfl rfl (by omega) hx|exact zaq rfl rfl (zhj _ k)|exact qM));constructor)|refine qP ?_)
 ·simp only[Bool.or_eq_true,decide_eq_true_eq]at hb
  have hg:g.bad:=by unfold Gate.bad;omega
  rw[hw,zis hg]
  refine retN (.cellA inferInstance rfl rfl rfl rfl qF .nil) ?_
  rfl
 ·rename_i hb1
  simp only[Bool.or_eq_false_iff,decide_eq_true_eq,decide_eq_false_iff_not]at hb hb1
  have hg:¬g.bad:=by unfold Gate.bad;omega
  rw[hw,zhh hg (by omega)]
  refine retN (.cellA inferInstance rfl rfl rfl rfl qF .nil) ?_
  rfl
 rename_i hb1
 simp only[Bool.or_eq_false_iff,decide_eq_false_iff_not]at hb hb1
 have hg:¬g.bad:=by unfold Gate.bad;omega
 rw[zhi hg (by omega)]at hw
 refine zbY 44 rfl (fun hlen2=>?_)
 refine zag (fun j:Nat=>⟨[(0,.dat false (.slice (l.map zaM))),(2,.ptr 2 0),(3,.ptr 3 0),(4,.ptr 4 0),(5,.dat true (.fn 147 [.rp [.int .i64 k]])),(6,.dat false (.int .i64 (zg8 g.ways j))),(9,.dat false (.slice (l.map zaM))),(10,.dat true (.int .i64 (l.map zaM).length)),(11,.dat true (.int .i64 k)),(44,.dat false (.slice (g.ways.map zad))),(45,.dat true (.int .i64 (g.ways.map zad).length)),(46,.dat true (.int .i64 j))],
   [(2,.cells false true [.dat true (.int .i64 0),.dat true (.int .i64 0)]),(3,.cells true true [.dat true (.int .i64 k)]),(4,.cells false true [.dat false (.int .i64 g.port),.dat false (.slice (g.ways.map zad)),.dat false (.int .i64 g.plain),.dat false (.slice (g.opens.map zbA))])],82⟩)
  (fun j=>j≤g.ways.length∧zfF 0 g.ways=zfF (zg8 g.ways j) (g.ways.drop j)) (fun j=>g.ways.length-j) 0 ⟨Nat.zero_le _,rfl⟩
  (Wk_g some rfl rfl kq) (fun j hR=>?_)
 obtain⟨hj,hv⟩:=hR
 by_cases hlj:j<g.ways.length
 ·have hy:g.ways[(j:Int).toNat]? = some g.ways[j]:=by simp[hlj]
  have hm:g.ways.drop j=g.ways[j]::g.ways.drop (j+1):=List.drop_eq_getElem_cons hlj
  have hla:zg8 g.ways (j+1)=g.ways[j]:=by simp[zg8,hlj]
  generalize g.ways[j]=v at hy hm hla
  rw[hm,zfF]at hv
  generalize zg8 g.ways j=q at hv
  repeat' (first|refine qU ?_|refine zat rfl (fun hc=>?_) (fun hc=>?_)|((first|apply dX rfl|apply Da rfl rfl|apply Db rfl rfl qN);(focus ((try intro hg);first|exact zab (zam rfl rfl) (decide_eq_true (by omega:(j:Int)<((g.ways.map zad).length:Int)))|exact zaf rfl rfl (by omega) hy|exact zaq rfl rfl (zhj _ k)|exact qM));constructor)|refine qP ?_)
  ·simp only[Bool.or_eq_true,decide_eq_true_eq]at hc
   rw[if_pos hc]at hv
   rw[hw,hv]
   refine retN (.cellA inferInstance rfl rfl rfl rfl qF .nil) ?_
   rfl
  ·rename_i hc1
   simp only[Bool.or_eq_false_iff,decide_eq_true_eq,decide_eq_false_iff_not]at hc hc1
   rw[if_neg (by omega),if_pos hc]at hv
   rw[hw,hv]
   refine retN (.cellA inferInstance rfl rfl rfl rfl qF .nil) ?_
   rfl
  ·rename_i hc1
   simp only[Bool.or_eq_false_iff,decide_eq_false_iff_not]at hc hc1
   rw[if_neg (by omega),if_neg hc]at hv
   rw[←hla]at hv
   refine zaa (j+1) ⟨hlj,hv⟩ (by omega) ?_
   rw[hla]
   exact Wk_g some rfl rfl kq
 rw[List.drop_eq_nil_of_le (by omega)]at hv
 have hv0:zfF 0 g.ways=0:=hv
 rw[hv0,if_neg (by simp)]at hw
 rcases k with - | i
 ·have h00:zga l 0=none:=rfl
  rw[h00,if_neg (by simp)]at hw
  repeat' (first|refine qU ?_|((first|apply dX rfl|apply Da rfl rfl|apply Db rfl rfl qN);(focus ((try intro hg);first|exact zab (zam rfl rfl) (decide_eq_false (by omega:¬(j:Int)<((g.ways.map zad).length:Int)))|exact zab (b:=false) (zbr rfl rfl) rfl|exact qM));constructor)|refine qP ?_)
  exact zaa (0+1) ⟨hlt,by rw[hw,hlast]⟩ (by omega) (Wk_g some rfl rfl kq)
 ·have hi:i<l.length:=by omega
  have hx2:l[(((i+1:Nat):Int)-1).toNat]? = some l[i]:=by
   rw[show(((i+1:Nat):Int)-1).toNat=i by omega];exact List.getElem?_eq_getElem hi
  have h00:zga l (i+1)=some l[i].port:=by simp[zga,hi]
  generalize l[i]=q at hx2 h00
  rw[h00]at hw
  repeat' (first|refine qU ?_|refine zat rfl (fun hc=>?_) (fun hc=>?_)|((first|apply dX rfl|apply Da rfl rfl|apply Db rfl rfl qN);(focus ((try intro hg);first|exact zab (zam rfl rfl) (decide_eq_false (by omega:¬(j:Int)<((g.ways.map zad).length:Int)))|exact zaf rfl rfl (by omega) hx2|exact zaq rfl rfl (zhj _ _)|exact zab (zbr rfl rfl) (decide_eq_true (by omega:(0:Int)<((i+1:Nat):Int)))|exact qM));constructor)|refine qP ?_)
  ·simp only[decide_eq_true_eq]at hc
   rw[hw,if_pos (by simpa using hc)]
   refine retN (.cellA inferInstance rfl rfl rfl rfl qF .nil) ?_
   rfl
  ·simp only[decide_eq_false_iff_not]at hc
   rw[if_neg (by simpa using hc)]at hw
   exact zaa (i+1+1) ⟨by omega,by rw[hw,hlast]⟩ (by omega) (Wk_g some rfl rfl kq)
end Go.Proofs.YtcdhlofhhcgohaaGreat
namespace Go.Proofs.YtcdhlofhhcgohaaGreat
open Go.RowKit
attribute [local irreducible] SStep DW DWin DOps zaG zaE zaJ retQ zaN FnF FnG Wk IntKind.wrap IntKind.andI IntKind.orI IntKind.xorI IntKind.andNotI IntKind.shlI IntKind.shrI bsG za2
theorem zs2 (x:Int):FnF Tryz.prog 178 [.int .i64 x] (.bool false):=by
 refine zal Tryz.func178 rfl rfl rfl ?_
 simp only[zap]
 repeat' (first|refine qU ?_|((first|apply dX rfl|apply Da rfl rfl|apply Db rfl rfl qN);(focus ((try intro hg);first|exact qM));constructor)|refine qP ?_)
 exact ret1 rfl (.inl rfl) (by simp)
theorem zrp (x y:Int):FnF Tryz.prog 157 [.int .i64 x,.int .i64 y] (.bool (decide (x<y))):=by
 refine zal Tryz.func157 rfl rfl rfl ?_
 simp only[zap]
 repeat' (first|refine qU ?_|((first|apply dX rfl|apply Da rfl rfl|apply Db rfl rfl qN);(focus ((try intro hg);first|exact zac (zkc _) rfl|exact qM));constructor)|refine qP ?_)
 exact ret1 rfl (.inl rfl) (by simp)
set_option maxHeartbeats 1000000 in
theorem zs3 (l:List Int) (v:Int) (hs:l.Pairwise (· < ·)) (hl:l.length≤4194304):FnF Tryz.prog 143 [.slice (l.map zad),.int .i64 v] (.tuple [.int .i64 (bsW l v),.bool (decide (v∈l))]):=by
 refine zal Tryz.func143 rfl rfl rfl ?_
 simp only[zap]
 have hml:(l.map zad).length=l.length:=by simp
 rw[←zrj hs v]
 repeat' (first|refine qU ?_|((first|apply dX rfl|apply Da rfl rfl|apply Db rfl rfl qN);(focus ((try intro hg);first|exact qM));constructor)|refine qP ?_)
 refine zag (fun p:Nat×Nat=>⟨[(0,.dat false (.slice (l.map zad))),(1,.dat false (.int .i64 v)),(6,.dat true (.int .i64 (l.map zad).length)),(7,.dat true (.int .i64 p.1)),(8,.dat true (.int .i64 p.2))],[],54⟩)
  (fun p=>p.1≤p.2∧p.2≤l.length∧∃ f,p.2-p.1≤f∧bsG (fun x=>x-v) 0 l f p.1 p.2=bsW l v) (fun p=>p.2-p.1) (0,(l.map zad).length) ⟨Nat.zero_le _,by simp,l.length,by simp,by rw[hml];rfl⟩
  (Wk_g some rfl rfl kq) (fun p hR=>?_)
 obtain⟨i,j⟩:=p
 obtain⟨h1,h2,f,hf,hgo⟩:=hR
 simp only at h1 h2 hf hgo
 dsimp only
 by_cases hlt:i<j
 ·obtain⟨f,rfl⟩:∃ g,f=g+1:=⟨f-1,by omega⟩
  have hh:(i+j) / 2<l.length:=by omega
  have hx:l[(((i+j) / 2:Nat):Int).toNat]? = some l[(i+j) / 2]:=by rw[Int.toNat_natCast];exact List.getElem?_eq_getElem hh
  have hg:l.getD ((i+j) / 2) 0=l[(i+j) / 2]:=by rw[List.getD_eq_getElem?_getD,List.getElem?_eq_getElem hh];rfl
  have hs:IntKind.u64.shrI ((i:Int)+(j:Int)) 1=(((i+j) / 2:Nat):Int):=by rw[←shr1b (i+j) (by omega)];rfl
  have hgo':(if(l[(i+j) / 2])-v<0 then bsG (fun x=>x-v) 0 l f ((i+j) / 2+1) j else bsG (fun x=>x-v) 0 l f i ((i+j) / 2))=bsW l v:=by
   rw[←hgo,←hg]
   with_unfolding_all (rw[bsG,if_pos hlt])
  generalize l[(i+j) / 2]=w at hx hgo'
  have hhb:(i+j) / 2<j∧i≤(i+j) / 2:=by omega
  generalize (i+j) / 2=h at hx hs hgo' hhb hh
  have hle:=zrp w v
  by_cases hc:w<v
  ·rw[if_pos (by omega)]at hgo'
   rw[decide_eq_true hc]at hle
   repeat' (first|refine qU ?_|((first|apply dX rfl|apply Da rfl rfl|apply Db rfl rfl qN);(focus ((try intro hg);first|exact zab (zam rfl rfl) (decide_eq_true (by omega:(i:Int)<(j:Int)))|exact zaw (zeD rfl rfl (by decide)) hs|exact zaf rfl rfl (by omega) hx|exact zac hle rfl|exact qM));constructor)|refine qP ?_)
   exact zaa (h+1,j) ⟨by simp only;omega,h2,f,by simp only;omega,hgo'⟩ (by simp only;omega) (Wk_g some rfl rfl kq)
  ·rw[if_neg (by omega)]at hgo'
   rw[decide_eq_false hc]at hle
   repeat' (first|refine qU ?_|((first|apply dX rfl|apply Da rfl rfl|apply Db rfl rfl qN);(focus ((try intro hg);first|exact zab (zam rfl rfl) (decide_eq_true (by omega:(i:Int)<(j:Int)))|exact zaw (zeD rfl rfl (by decide)) hs|exact zaf rfl rfl (by omega) hx|exact zac hle rfl|exact qM));constructor)|refine qP ?_)
   exact zaa (i,h) ⟨by simp only;omega,by simp only;omega,f,by simp only;omega,hgo'⟩ (by simp only;omega) (Wk_g some rfl rfl kq)
 ·rw[zpj hlt]at hgo
  rw[←hgo]
  by_cases hin:i<l.length
  ·have hx:l[(i:Int).toNat]? = some l[i]:=by simp[hin]
   have hg:l.getD i 0=l[i]:=by rw[List.getD_eq_getElem?_getD,List.getElem?_eq_getElem hin];rfl
   rw[hg,decide_eq_true hin,Bool.true_and]
   generalize l[i]=w at hx
   repeat' (first|refine qU ?_|((first|apply dX rfl|apply Da rfl rfl|apply Db rfl rfl qN);(focus ((try intro hg);first|exact zab (zam rfl rfl) (decide_eq_false (by omega:¬(i:Int)<(j:Int)))|exact zab (zam rfl rfl) (decide_eq_true (by omega:(i:Int)<((l.map zad).length:Int)))|exact zaf rfl rfl (by omega) hx|exact zac (zs2 _) rfl|exact qM));constructor)|refine qP ?_)
   refine retN (.tmp rfl (.inr (.int _ _)) (.tmp rfl (.inl rfl) .nil)) ?_
   simp[pack]
  ·rw[decide_eq_false hin,Bool.false_and]
   repeat' (first|refine qU ?_|((first|apply dX rfl|apply Da rfl rfl|apply Db rfl rfl qN);(focus ((try intro hg);first|exact zab (zam rfl rfl) (decide_eq_false (by omega:¬(i:Int)<(j:Int)))|exact zab (zam rfl rfl) (decide_eq_false (by omega:¬(i:Int)<((l.map zad).length:Int)))|exact qM));constructor)|refine qP ?_)
   exact retN (.tmp rfl (.inr (.int _ _)) (.tmp rfl (.inl rfl) .nil)) rfl
set_option maxHeartbeats 1000000 in
theorem zf1 (g:Gate) (r:Region) (v:Int) (hg:g.right) (hr:r.right) (hv : -9223372036854775808≤v∧v≤9223372036854775807) :
  FnF Tryz.prog 116 [.rp (zaM g),.rp r.cells,.int .i64 v] (.bool (g.passes r v)):=by
 refine zal Tryz.func116 rfl rfl rfl ?_
 simp only[zap]
 have c1:=zgP r v hr hv
 have c2:=zs3 g.ways v hg.s (by have:=hg.n;omega)
 have ht:=zkG hr.w v
 have hmo:(g.opens.map zbA).length=g.opens.length:=by simp
 unfold Gate.passes
 generalize za2 r.ways v=t at c1 ht
 by_cases hm:v∈g.ways
 ·rw[decide_eq_true hm]at c2
  rw[decide_eq_true hm,Bool.true_and]
  by_cases hlt:t<g.opens.length
  ·have hx:g.opens[t.toNat]? = some (g.opens[t.toNat]'(by omega)):=List.getElem?_eq_getElem _
   rw[hx]
   generalize g.opens[t.toNat]'(by omega)=b at hx
   repeat' (first|refine qU ?_|((first|apply dX rfl|apply Da rfl rfl|apply Db rfl rfl qN);(focus ((try intro hg);first|exact zac c1 rfl|exact zac c2 rfl|exact zab (zam rfl rfl) (decide_eq_true (by omega:t<((g.opens.map zbA).length:Int)))|exact zaf rfl rfl (by omega) hx|exact qM));constructor)|refine qP ?_)
   exact ret1 rfl (.inr (.bool _)) rfl
  ·rw[List.getElem?_eq_none (by omega)]
   repeat' (first|refine qU ?_|((first|apply dX rfl|apply Da rfl rfl|apply Db rfl rfl qN);(focus ((try intro hg);first|exact zac c1 rfl|exact zac c2 rfl|exact zab (zam rfl rfl) (decide_eq_false (by omega:¬t<((g.opens.map zbA).length:Int)))|exact qM));constructor)|refine qP ?_)
   exact ret1 rfl (.inl rfl) rfl
 ·rw[decide_eq_false hm]at c2
  rw[decide_eq_false hm,Bool.false_and]
  repeat' (first|refine qU ?_|((first|apply dX rfl|apply Da rfl rfl|apply Db rfl rfl qN);(focus ((try intro hg);first|exact zac c1 rfl|exact zac c2 rfl|exact qM));constructor)|refine qP ?_)
  exact ret1 rfl (.inl rfl) rfl
set_option maxHeartbeats 1000000 in
theorem zeX (g:Gate) (r:Region) (v:Int) (hr:r.right) :
  FnF Tryz.prog 123 [.agg (zaM g),r.v,.int .i64 v] (.bool (g.passes r v)):=by
 refine zal Tryz.func123 rfl rfl rfl ?_
 simp only[zap]
 have c1:=zkg r v (by have:=hr.l;omega)
 have c2:=zsZ g.ways v
 have ht:=zkG hr.w v
 have hmo:(g.opens.map zbA).length=g.opens.length:=by simp
 unfold Gate.passes
 generalize za2 r.ways v=t at c1 ht
 by_cases hm:v∈g.ways
 ·rw[decide_eq_true hm]at c2
  rw[decide_eq_true hm,Bool.true_and]
  by_cases hlt:t<g.opens.length
  ·have hx:g.opens[t.toNat]? = some (g.opens[t.toNat]'(by omega)):=List.getElem?_eq_getElem _
   rw[hx]
   generalize g.opens[t.toNat]'(by omega)=b at hx
   repeat' (first|refine qU ?_|((first|apply dX rfl|apply Da rfl rfl|apply Db rfl rfl qN);(focus ((try intro hg);first|exact zac c1 rfl|exact zac c2 rfl|exact zab (zam rfl rfl) (decide_eq_true (by omega:t<((g.opens.map zbA).length:Int)))|exact zaf rfl rfl (by omega) hx|exact qM));constructor)|refine qP ?_)
   exact ret1 rfl (.inr (.bool _)) rfl
  ·rw[List.getElem?_eq_none (by omega)]
   repeat' (first|refine qU ?_|((first|apply dX rfl|apply Da rfl rfl|apply Db rfl rfl qN);(focus ((try intro hg);first|exact zac c1 rfl|exact zac c2 rfl|exact zab (zam rfl rfl) (decide_eq_false (by omega:¬t<((g.opens.map zbA).length:Int)))|exact qM));constructor)|refine qP ?_)
   exact ret1 rfl (.inl rfl) rfl
 ·rw[decide_eq_false hm]at c2
  rw[decide_eq_false hm,Bool.false_and]
  repeat' (first|refine qU ?_|((first|apply dX rfl|apply Da rfl rfl|apply Db rfl rfl qN);(focus ((try intro hg);first|exact zac c1 rfl|exact zac c2 rfl|exact qM));constructor)|refine qP ?_)
  exact ret1 rfl (.inl rfl) rfl
theorem zpA (g:Gate) (f:Frame):FnF Tryz.prog 115 [.rp (zaM g),.rp f.cells] (.int .i64 (zcp g f)):=by
 refine zal Tryz.func115 rfl rfl rfl ?_
 simp only[zap]
 repeat' (first|refine qU ?_|refine zat rfl (fun hb=>?_) (fun hb=>?_)|((first|apply dX rfl|apply Da rfl rfl|apply Db rfl rfl qN);(focus ((try intro hg);first|exact qM));constructor)|refine qP ?_)
 ·refine ret1 rfl (.inr (.int _ _)) ?_
  simp only[Bool.and_eq_true,decide_eq_true_eq]at hb
  unfold zcp;rw[if_pos hb]
 ·refine ret1 rfl (.inr (.int _ _)) ?_
  unfold zcp;rw[if_neg (fun h=>by rw[h.1,decide_eq_true h.2]at hb;cases hb)]
theorem zhV (a:Int):FnF Tryz.prog 117 [.int .u64 a] (.bool (zdx a)):=by
 refine zal Tryz.func117 rfl rfl rfl ?_
 simp only[zap]
 repeat' (first|refine qU ?_|((first|apply dX rfl|apply Da rfl rfl|apply Db rfl rfl qN);(focus ((try intro hg);first|exact qM));constructor)|refine qP ?_)
 exact ret1 rfl (.inl rfl) rfl
theorem zlX (g:Gate) (f:Frame) (v:Int) (hf:f.data.length≤1099511627776):FnF Tryz.prog 120 [.rp (zaM g),f.v,.int .i64 v] (zcA g f v).v:=by
 refine zal Tryz.func120 rfl rfl rfl ?_
 simp only[zap]
 have hc:=zeN f.data hf
 have hw:=zbp (f:=zak) (us:=f.data) rfl
 unfold zcA
 by_cases h1:g.plain=v
 ·rw[if_pos h1]
  repeat' (first|refine zaD 27 (by intro kt et es h;cases (show Box.row _ false _ _ _=Box.mapb _ _ _ from h)) ?_|refine qU ?_|(apply dt rfl;case h=>first|exact zaB _ hc rfl rfl (.own _ _))|((first|apply dX rfl|apply Da rfl rfl|apply Db rfl rfl qN);(focus ((try intro hg);first|exact zab (zdp rfl rfl) (decide_eq_true h1)|exact zaB _ hc rfl rfl (.own _ _)|exact qM));constructor)|refine qP ?_)
  refine retN (.cellA inferInstance rfl rfl rfl rfl (.inl rfl) .nil) ?_
  simp only[pack,Frame.v,Frame.cells,hw]
 ·rw[if_neg h1]
  obtain⟨dst,src,tagged,prio,drop,vid,typ,data⟩:=f
  cases tagged
  ·repeat' (first|refine zaD 27 (by intro kt et es h;cases (show Box.row _ false _ _ _=Box.mapb _ _ _ from h)) ?_|refine qU ?_|(apply dt rfl;case h=>first|exact zaB _ hc rfl rfl (.own _ _))|((first|apply dX rfl|apply Da rfl rfl|apply Db rfl rfl qN);(focus ((try intro hg);first|exact zab (zdp rfl rfl) (decide_eq_false h1)|exact zaB _ hc rfl rfl (.own _ _)|exact qM));constructor)|refine qP ?_)
   refine retN (.cellA inferInstance rfl rfl rfl rfl (.inl rfl) .nil) ?_
   simp only[pack,Frame.v,Frame.cells,show List.take data.length (List.drop 0 (List.map zak data))=List.map zak data from hw]
   first|done|rfl|simp
  ·repeat' (first|refine zaD 27 (by intro kt et es h;cases (show Box.row _ false _ _ _=Box.mapb _ _ _ from h)) ?_|refine qU ?_|(apply dt rfl;case h=>first|exact zaB _ hc rfl rfl (.own _ _))|((first|apply dX rfl|apply Da rfl rfl|apply Db rfl rfl qN);(focus ((try intro hg);first|exact zab (zdp rfl rfl) (decide_eq_false h1)|exact zaB _ hc rfl rfl (.own _ _)|exact qM));constructor)|refine qP ?_)
   refine retN (.cellA inferInstance rfl rfl rfl rfl (.inl rfl) .nil) ?_
   simp only[pack,Frame.v,Frame.cells,show List.take data.length (List.drop 0 (List.map zak data))=List.map zak data from hw]
   first|done|rfl|simp
end Go.Proofs.YtcdhlofhhcgohaaGreat
