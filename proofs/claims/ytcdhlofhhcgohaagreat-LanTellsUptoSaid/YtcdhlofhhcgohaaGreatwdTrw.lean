/- Contract: the document's Play. -/
import Derived.Test.YtcdhlofhhcgohaaGreatwdTlc
import Derived.Test.YtcdhlofhhcgohaaGreatwdTro
namespace Go.Proofs.YtcdhlofhhcgohaaGreat
open Go.RowKit
theorem zhE (m:Net):m.v = .agg [.slice (((m.bridges.map zaj).drop 0).take m.bridges.length),.slice (((m.links.map zar).drop 0).take m.links.length)]:=by
 rw[zbp (f:=zaj) (us:=m.bridges) rfl,zbp (f:=zar) (us:=m.links) rfl];rfl
attribute [local irreducible] SStep DW DWin DOps zaG zaE zaJ retQ zaN FnF FnG FnI Wk IntKind.wrap IntKind.andI IntKind.orI IntKind.xorI IntKind.andNotI IntKind.shlI IntKind.shrI Net.wrong za3 zah doS
set_option maxHeartbeats 8000000 in
theorem zrZ (n:Net) (ht:n.typed) (h0:n.wrong.1=0) (t:List (List Mind)) (htt:goodT n t) (h1:1≤t.length) (l:List Doing) (hl:l.length≤30):FnG Tryz.prog 21 (zbM [true,true,false] [n.v,zaO t,.slice (l.map Doing.cells)]) [] (.dat true (onV (zaX 0 l n t))) []:=by
 refine zbj Tryz.func21 rfl rfl rfl ?_
 simp only[zbM,envD,zaO]
 have hwr:=zb4 n ht.wy
 rw[Net.wrong_zero h0]at hwr
 have h:=((Net.wrong_iff ht).1 h0).1
 have hri:=zhB n h t htt h1
 have hml:(l.map Doing.cells).length=l.length:=by simp
 have hnb:=h.nb
 have hnl:=h.nl
 repeat' (first|(apply dt rfl;case h=>exact zb8 (els := []) _ rfl rfl rfl rfl rfl)|refine qU ?_|refine qW ?_|((first|apply dX rfl|apply Da rfl rfl|apply Db rfl rfl qN);(focus ((try intro hg);first|exact zac hwr rfl|exact zac hri rfl|exact zan (f:=zaj) (us := []) (bs:=n.bridges) rfl rfl (.dat _ _) rfl rfl (.inl rfl) rfl (by simp only[List.length_nil];omega)|exact zan (f:=zar) (us := []) (bs:=n.links) rfl rfl (.dat _ _) rfl rfl (.inl rfl) rfl (by simp only[List.length_nil];omega)|exact qMo));constructor)|refine qP ?_)
 refine zag (fun q:Nat×(Net×List (List Mind))=>⟨[(2,.dat false (.slice (l.map Doing.cells))),(3,.ptr 3 0),(4,.ptr 4 0),(6,.ptr 6 0),(7,.ptr 7 0),(8,.ptr 8 0),(9,.dat true (.fn 58 [])),(57,.dat false (.slice (l.map Doing.cells))),(58,.dat true (.int .i64 (l.map Doing.cells).length)),(59,.dat true (.int .i64 q.1))],[(3,.cells false true [.own 47 0 0 q.2.1.bridges.length,.own 52 0 0 q.2.1.links.length]),(4,.cells false true [.dat true (.slice (q.2.2.map zae))]),(6,.cells false true [.nil,.nil]),(7,.cells false true [.nil]),(8,.cells false true [.dat true (.int .i64 0),.dat true (.int .i64 0)]),(47,.row 0 false true 5 (q.2.1.bridges.map zaj)),(52,.row 0 false true 6 (q.2.1.links.map zar))],245⟩)
  (fun q=>q.1≤l.length∧q.2.1.good∧goodT q.2.1 q.2.2∧Kin n q.2.1∧zaX 0 l n t=zaX q.1 (l.drop q.1) q.2.1 q.2.2) (fun q=>l.length-q.1) (0,(n,t)) ⟨Nat.zero_le _,h,htt,.refl n,rfl⟩
  (Wk_g some rfl rfl kqp) (fun q hR=>?_)
 obtain⟨i,m,u⟩:=q
 obtain⟨hi,hg,hgu,hkin,hon⟩:=hR
 simp only at hi hg hgu hkin hon
 dsimp only
 rw[hon]
 have hmb:=hg.nb
 have hmk:=hg.nl
 by_cases hlt:i<l.length
 ·have hx:l[(i:Int).toNat]? = some l[i]:=by simp[hlt]
  have hdr:l.drop i=l[i]::l.drop (i+1):=List.drop_eq_getElem_cons hlt
  rw[hdr,zaX]
  generalize l[i]=d at hx hdr
  have hbad1:=zet 1 i
  have hbad3:=zet 3 i
  have hbad6:=zet 6 i
  by_cases hk1:d.kind=1
  ·rw [if_pos hk1]
   by_cases hb:d.n<0∨200<d.n
   ·rw[if_pos hb]
    by_cases hb1:d.n<0
    ·repeat' (first|refine qU ?_|refine qW ?_|((first|apply dX rfl|apply Da rfl rfl|apply Db rfl rfl qN);(focus ((try intro hg);first|exact zaf rfl rfl (by omega) hx|exact zaq rfl rfl hbad3|exact qMo));constructor)|refine qP ?_)
     refine gDat (.cellA inferInstance rfl rfl rfl rfl qF (.cellA inferInstance rfl rfl rfl rfl qF (.cellA inferInstance rfl rfl rfl rfl qF .nil))) zav ?_
     rfl
    ·repeat' (first|refine qU ?_|refine qW ?_|((first|apply dX rfl|apply Da rfl rfl|apply Db rfl rfl qN);(focus ((try intro hg);first|exact zaf rfl rfl (by omega) hx|exact zaq rfl rfl hbad3|exact qMo));constructor)|refine qP ?_)
     refine gDat (.cellA inferInstance rfl rfl rfl rfl qF (.cellA inferInstance rfl rfl rfl rfl qF (.cellA inferInstance rfl rfl rfl rfl qF .nil))) zav ?_
     rfl
   ·rw[if_neg hb]
    obtain⟨T,hT⟩:∃ T:Nat,d.n=(T:Int):=⟨d.n.toNat,by omega⟩
    rw[hT,Int.toNat_natCast]
    have hlv:=zp8 m hg
    rw[zhE m]at hlv
    repeat' (first|refine qU ?_|refine qW ?_|((first|apply dX rfl|apply Da rfl rfl|apply Db rfl rfl qN);(focus ((try intro hg);first|exact zaf rfl rfl (by omega) hx|exact zac hlv rfl|exact qMo));constructor)|refine qP ?_)
    refine zag (fun k:Nat=>⟨[(2,.dat false (.slice (l.map Doing.cells))),(3,.ptr 3 0),(4,.ptr 4 0),(6,.ptr 6 0),(7,.ptr 7 0),(8,.ptr 8 0),(9,.dat true (.fn 58 [])),(57,.dat false (.slice (l.map Doing.cells))),(58,.dat true (.int .i64 (l.map Doing.cells).length)),(59,.dat true (.int .i64 i)),(12,.ptr 12 0),(13,.dat true (.slice ((za3 m).map zar))),(14,.dat true (.int .i64 k))],[(3,.cells false true [.own 47 0 0 m.bridges.length,.own 52 0 0 m.links.length]),(4,.cells false true [.dat true (.slice ((zc1 m u k).map zae))]),(6,.cells false true [.nil,.nil]),(7,.cells false true [.nil]),(8,.cells false true [.dat true (.int .i64 0),.dat true (.int .i64 0)]),(47,.row 0 false true 5 (m.bridges.map zaj)),(52,.row 0 false true 6 (m.links.map zar)),(12,.cells false true (d.cells.map (.dat false)))],245⟩)
     (fun k=>k≤T) (fun k=>T-k) 0 (Nat.zero_le _) (Wk_g some rfl rfl kqp) (fun k hk=>?_)
    by_cases hlk:k<T
    ·have htk:=zqh m hg (zc1 m u k) (zbE hgu k)
     rw[zhE m]at htk
     repeat' (first|refine qU ?_|refine qW ?_|((first|apply dX rfl|apply Da rfl rfl|apply Db rfl rfl qN);(focus ((try intro hg);first|exact zjq [false,false,true] htk (fun m' hag=>⟨(zbx hag).trans rfl,⟨rfl,trivial⟩⟩)|exact qMo));constructor)|refine qP ?_)
     exact zaa (k+1) hlk (by omega) (Wk_g some rfl rfl kqp)
    ·have hkT:k=T:=by omega
     subst hkT
     repeat' (first|refine qU ?_|refine qW ?_|((first|apply dX rfl|apply Da rfl rfl|apply Db rfl rfl qN);(focus ((try intro hg);first|exact qMo));constructor)|refine qP ?_)
     exact zaa (i+1,(m,zc1 m u k)) ⟨hlt,hg,zbE hgu k,hkin,rfl⟩ (by simp only;omega) (Wk_g some rfl rfl kqp)
  ·rw [if_neg hk1]
   have hgd:=zjh hg d
   have hkd:=zjg m d
   by_cases hq:d.kind=2∨d.kind=3∨d.kind=4
   ·by_cases hn0:d.n<0∨(m.links.length:Int)≤d.n
    ·rw[zjz hq hn0]
     dsimp only
     rw[if_pos (by decide)]
     rcases hq with hk|hk|hk<;>by_cases h0n:d.n<0
     ·repeat' (first|refine qU ?_|refine qW ?_|((first|apply dX rfl|apply Da rfl rfl|apply Db rfl rfl qN);(focus ((try intro hg);first|exact zaf rfl rfl (by omega) hx|exact zaq rfl rfl hbad6|exact qMo));constructor)|refine qP ?_)
      refine gDat (.cellA inferInstance rfl rfl rfl rfl qF (.cellA inferInstance rfl rfl rfl rfl qF (.cellA inferInstance rfl rfl rfl rfl qF .nil))) zav ?_
      rfl
     ·repeat' (first|refine qU ?_|refine qW ?_|((first|apply dX rfl|apply Da rfl rfl|apply Db rfl rfl qN);(focus ((try intro hg);first|exact zaf rfl rfl (by omega) hx|exact zaq rfl rfl hbad6|exact qMo));constructor)|refine qP ?_)
      refine gDat (.cellA inferInstance rfl rfl rfl rfl qF (.cellA inferInstance rfl rfl rfl rfl qF (.cellA inferInstance rfl rfl rfl rfl qF .nil))) zav ?_
      rfl
     ·repeat' (first|refine qU ?_|refine qW ?_|((first|apply dX rfl|apply Da rfl rfl|apply Db rfl rfl qN);(focus ((try intro hg);first|exact zaf rfl rfl (by omega) hx|exact zaq rfl rfl hbad6|exact qMo));constructor)|refine qP ?_)
      refine gDat (.cellA inferInstance rfl rfl rfl rfl qF (.cellA inferInstance rfl rfl rfl rfl qF (.cellA inferInstance rfl rfl rfl rfl qF .nil))) zav ?_
      rfl
     ·repeat' (first|refine qU ?_|refine qW ?_|((first|apply dX rfl|apply Da rfl rfl|apply Db rfl rfl qN);(focus ((try intro hg);first|exact zaf rfl rfl (by omega) hx|exact zaq rfl rfl hbad6|exact qMo));constructor)|refine qP ?_)
      refine gDat (.cellA inferInstance rfl rfl rfl rfl qF (.cellA inferInstance rfl rfl rfl rfl qF (.cellA inferInstance rfl rfl rfl rfl qF .nil))) zav ?_
      rfl
     ·repeat' (first|refine qU ?_|refine qW ?_|((first|apply dX rfl|apply Da rfl rfl|apply Db rfl rfl qN);(focus ((try intro hg);first|exact zaf rfl rfl (by omega) hx|exact zaq rfl rfl hbad6|exact qMo));constructor)|refine qP ?_)
      refine gDat (.cellA inferInstance rfl rfl rfl rfl qF (.cellA inferInstance rfl rfl rfl rfl qF (.cellA inferInstance rfl rfl rfl rfl qF .nil))) zav ?_
      rfl
     ·repeat' (first|refine qU ?_|refine qW ?_|((first|apply dX rfl|apply Da rfl rfl|apply Db rfl rfl qN);(focus ((try intro hg);first|exact zaf rfl rfl (by omega) hx|exact zaq rfl rfl hbad6|exact qMo));constructor)|refine qP ?_)
      refine gDat (.cellA inferInstance rfl rfl rfl rfl qF (.cellA inferInstance rfl rfl rfl rfl qF (.cellA inferInstance rfl rfl rfl rfl qF .nil))) zav ?_
      rfl
    ·have hA:d.n=(d.n.toNat:Int):=by omega
     have hAl:d.n.toNat<m.links.length:=by omega
     have hxl:m.links[d.n.toNat]? = some m.links[d.n.toNat]:=List.getElem?_eq_getElem hAl
     generalize m.links[d.n.toNat]=x at hxl
     rcases hq with hk|hk|hk
     ·have hd:=zpQ (Or.inl hk) hA hxl
      rw[decide_eq_true hk]at hd
      rw[hd]at hgd hkd ⊢
      dsimp only at hgd hkd ⊢
      rw[if_neg (by decide)]
      repeat' (first|refine qU ?_|refine qW ?_|((first|apply dX rfl|apply Da rfl rfl|apply Db rfl rfl qN);(focus ((try intro hg);first|exact zaf rfl rfl (by omega) hx|exact zc7 rfl rfl rfl (by omega) (by omega)|exact zba (f:=zar) (a := { x with up:=true }) rfl rfl hxl rfl rfl (.inl rfl) rfl rfl|exact qMo));constructor)|refine qP ?_)
      (refine zaa (i+1,(⟨m.bridges,m.links.set d.n.toNat { x with up:=true }⟩,u)) ⟨hlt,hgd rfl,zcb hkd hgu,hkin.trans hkd,rfl⟩ (by simp only;omega) ?_;dsimp only;rw[List.length_set];exact Wk_g some rfl rfl kqp)
     ·have hd:=zpQ (Or.inr hk) hA hxl
      rw[decide_eq_false (by omega:¬d.kind=2)]at hd
      rw[hd]at hgd hkd ⊢
      dsimp only at hgd hkd ⊢
      rw[if_neg (by decide)]
      repeat' (first|refine qU ?_|refine qW ?_|((first|apply dX rfl|apply Da rfl rfl|apply Db rfl rfl qN);(focus ((try intro hg);first|exact zaf rfl rfl (by omega) hx|exact zc7 rfl rfl rfl (by omega) (by omega)|exact zba (f:=zar) (a := { x with up:=false }) rfl rfl hxl rfl rfl (.inl rfl) rfl rfl|exact qMo));constructor)|refine qP ?_)
      (refine zaa (i+1,(⟨m.bridges,m.links.set d.n.toNat { x with up:=false }⟩,u)) ⟨hlt,hgd rfl,zcb hkd hgu,hkin.trans hkd,rfl⟩ (by simp only;omega) ?_;dsimp only;rw[List.length_set];exact Wk_g some rfl rfl kqp)
     ·by_cases hv:d.value<1∨200000<d.value
      ·rw[zmX hk (by omega) hv]
       dsimp only
       rw[if_pos (by decide)]
       by_cases hv1:d.value<1
       ·repeat' (first|refine qU ?_|refine qW ?_|((first|apply dX rfl|apply Da rfl rfl|apply Db rfl rfl qN);(focus ((try intro hg);first|exact zaf rfl rfl (by omega) hx|exact zaq rfl rfl hbad3|exact qMo));constructor)|refine qP ?_)
        refine gDat (.cellA inferInstance rfl rfl rfl rfl qF (.cellA inferInstance rfl rfl rfl rfl qF (.cellA inferInstance rfl rfl rfl rfl qF .nil))) zav ?_
        rfl
       ·repeat' (first|refine qU ?_|refine qW ?_|((first|apply dX rfl|apply Da rfl rfl|apply Db rfl rfl qN);(focus ((try intro hg);first|exact zaf rfl rfl (by omega) hx|exact zaq rfl rfl hbad3|exact qMo));constructor)|refine qP ?_)
        refine gDat (.cellA inferInstance rfl rfl rfl rfl qF (.cellA inferInstance rfl rfl rfl rfl qF (.cellA inferInstance rfl rfl rfl rfl qF .nil))) zav ?_
        rfl
      ·have hd:=zmW hk hA hxl (by omega)
       rw[hd]at hgd hkd ⊢
       dsimp only at hgd hkd ⊢
       rw[if_neg (by decide)]
       repeat' (first|refine qU ?_|refine qW ?_|((first|apply dX rfl|apply Da rfl rfl|apply Db rfl rfl qN);(focus ((try intro hg);first|exact zaf rfl rfl (by omega) hx|exact zc7 rfl rfl rfl (by omega) (by omega)|exact zba (f:=zar) (a := { x with cost:=d.value }) rfl rfl hxl rfl rfl (.inl rfl) rfl rfl|exact qMo));constructor)|refine qP ?_)
       (refine zaa (i+1,(⟨m.bridges,m.links.set d.n.toNat { x with cost:=d.value }⟩,u)) ⟨hlt,hgd rfl,zcb hkd hgu,hkin.trans hkd,rfl⟩ (by simp only;omega) ?_;dsimp only;rw[List.length_set];exact Wk_g some rfl rfl kqp)
   ·by_cases h5:d.kind=5
    ·by_cases hn0:d.n<0∨(m.bridges.length:Int)≤d.n
     ·rw[zht h5 hn0]
      dsimp only
      rw[if_pos (by decide)]
      by_cases h0n:d.n<0
      ·repeat' (first|refine qU ?_|refine qW ?_|((first|apply dX rfl|apply Da rfl rfl|apply Db rfl rfl qN);(focus ((try intro hg);first|exact zaf rfl rfl (by omega) hx|exact zaq rfl rfl hbad6|exact qMo));constructor)|refine qP ?_)
       refine gDat (.cellA inferInstance rfl rfl rfl rfl qF (.cellA inferInstance rfl rfl rfl rfl qF (.cellA inferInstance rfl rfl rfl rfl qF .nil))) zav ?_
       rfl
      ·repeat' (first|refine qU ?_|refine qW ?_|((first|apply dX rfl|apply Da rfl rfl|apply Db rfl rfl qN);(focus ((try intro hg);first|exact zaf rfl rfl (by omega) hx|exact zaq rfl rfl hbad6|exact qMo));constructor)|refine qP ?_)
       refine gDat (.cellA inferInstance rfl rfl rfl rfl qF (.cellA inferInstance rfl rfl rfl rfl qF (.cellA inferInstance rfl rfl rfl rfl qF .nil))) zav ?_
       rfl
     ·by_cases hv:d.tree<0∨15<d.tree∨d.value<0∨61440<d.value∨d.value.tmod 4096≠0
      ·rw[zmY h5 (by omega) hv]
       dsimp only
       rw[if_pos (by decide)]
       by_cases g212:d.tree<0
       ·repeat' (first|refine qU ?_|refine qW ?_|((first|apply dX rfl|apply Da rfl rfl|apply Db rfl rfl qN);(focus ((try intro hg);first|exact zaf rfl rfl (by omega) hx|exact zaq rfl rfl hbad3|exact qMo));constructor)|refine qP ?_)
        refine gDat (.cellA inferInstance rfl rfl rfl rfl qF (.cellA inferInstance rfl rfl rfl rfl qF (.cellA inferInstance rfl rfl rfl rfl qF .nil))) zav ?_
        rfl
       by_cases g243:15<d.tree
       ·repeat' (first|refine qU ?_|refine qW ?_|((first|apply dX rfl|apply Da rfl rfl|apply Db rfl rfl qN);(focus ((try intro hg);first|exact zaf rfl rfl (by omega) hx|exact zaq rfl rfl hbad3|exact qMo));constructor)|refine qP ?_)
        refine gDat (.cellA inferInstance rfl rfl rfl rfl qF (.cellA inferInstance rfl rfl rfl rfl qF (.cellA inferInstance rfl rfl rfl rfl qF .nil))) zav ?_
        rfl
       by_cases g264:d.value<0
       ·repeat' (first|refine qU ?_|refine qW ?_|((first|apply dX rfl|apply Da rfl rfl|apply Db rfl rfl qN);(focus ((try intro hg);first|exact zaf rfl rfl (by omega) hx|exact zaq rfl rfl hbad3|exact qMo));constructor)|refine qP ?_)
        refine gDat (.cellA inferInstance rfl rfl rfl rfl qF (.cellA inferInstance rfl rfl rfl rfl qF (.cellA inferInstance rfl rfl rfl rfl qF .nil))) zav ?_
        rfl
       by_cases g279:61440<d.value
       ·repeat' (first|refine qU ?_|refine qW ?_|((first|apply dX rfl|apply Da rfl rfl|apply Db rfl rfl qN);(focus ((try intro hg);first|exact zaf rfl rfl (by omega) hx|exact zaq rfl rfl hbad3|exact qMo));constructor)|refine qP ?_)
        refine gDat (.cellA inferInstance rfl rfl rfl rfl qF (.cellA inferInstance rfl rfl rfl rfl qF (.cellA inferInstance rfl rfl rfl rfl qF .nil))) zav ?_
        rfl
       have h4:d.value.tmod 4096≠0:=by omega
       repeat' (first|refine qU ?_|refine qW ?_|((first|apply dX rfl|apply Da rfl rfl|apply Db rfl rfl qN);(focus ((try intro hg);first|exact zaf rfl rfl (by omega) hx|exact zaq rfl rfl hbad3|exact qMo));constructor)|refine qP ?_)
       refine gDat (.cellA inferInstance rfl rfl rfl rfl qF (.cellA inferInstance rfl rfl rfl rfl qF (.cellA inferInstance rfl rfl rfl rfl qF .nil))) zav ?_
       rfl
      ·have hA:d.n=(d.n.toNat:Int):=by omega
       have hAl:d.n.toNat<m.bridges.length:=by omega
       have hb:m.bridges[d.n.toNat]? = some m.bridges[d.n.toNat]:=List.getElem?_eq_getElem hAl
       have hbo:=hg.br m.bridges[d.n.toNat] (List.getElem_mem hAl)
       generalize m.bridges[d.n.toNat]=b at hb hbo
       have htr:d.tree=(d.tree.toNat:Int):=by omega
       have hvv:d.tree.toNat≤15∧0≤d.value∧d.value≤61440∧d.value.tmod 4096=0:=by omega
       have hd:=zk0 h5 hA hb htr hvv
       rw[hd]at hgd hkd ⊢
       dsimp only at hgd hkd ⊢
       rw[if_neg (by decide)]
       have hbn:=hbo.n
       have hb':(m.bridges.map zaj)[d.n.toNat]? = some (zaj b):=by rw[List.getElem?_map,hb];rfl
       have hpl:(b.prios++List.replicate 0 32768).length=b.prios.length:=by simp
       have hp0:b.prios++List.replicate 0 32768=[]++b.prios:=by simp
       repeat' (first|(apply dt rfl;case h=>exact zb8 (els := []) _ rfl rfl rfl rfl rfl)|refine qU ?_|refine qW ?_|((first|apply dX rfl|apply Da rfl rfl|apply Db rfl rfl qN);(focus ((try intro hg);first|exact zaf rfl rfl (by omega) hx|exact zc7 rfl rfl rfl (by omega) (by omega)|exact zbn rfl rfl hb' rfl|exact zan (f:=zad) (us := []) (bs:=b.prios) rfl rfl (.dat _ _) rfl rfl (.inl rfl) rfl (by simp only[List.length_nil];omega)|exact qMo));constructor)|refine qP ?_)
       refine zag (fun k:Nat=>⟨[(2,.dat false (.slice (l.map Doing.cells))),(3,.ptr 3 0),(4,.ptr 4 0),(6,.ptr 6 0),(7,.ptr 7 0),(8,.ptr 8 0),(9,.dat true (.fn 58 [])),(57,.dat false (.slice (l.map Doing.cells))),(58,.dat true (.int .i64 (l.map Doing.cells).length)),(59,.dat true (.int .i64 i)),(12,.ptr 12 0),(15,.own 210 0 0 (b.prios++List.replicate k 32768).length)],[(3,.cells false true [.own 47 0 0 m.bridges.length,.own 52 0 0 m.links.length]),(4,.cells false true [.dat true (.slice (u.map zae))]),(6,.cells false true [.nil,.nil]),(7,.cells false true [.nil]),(8,.cells false true [.dat true (.int .i64 0),.dat true (.int .i64 0)]),(47,.row 0 false true 5 (m.bridges.map zaj)),(52,.row 0 false true 6 (m.links.map zar)),(12,.cells false true (d.cells.map (.dat false))),(210,.row 0 false true 1 ((b.prios++List.replicate k 32768).map zad))],245⟩)
        (fun k=>k≤d.tree.toNat+1-b.prios.length) (fun k=>d.tree.toNat+1-b.prios.length-k) 0 (Nat.zero_le _) (by rw[hp0];exact Wk_g some rfl rfl kqp) (fun k hk=>?_)
       have hkl:(b.prios++List.replicate k 32768).length=b.prios.length+k:=by simp
       by_cases hlk:k<d.tree.toNat+1-b.prios.length
       ·have hrep:b.prios++List.replicate (k+1) (32768:Int)=(b.prios++List.replicate k 32768)++[32768]:=by rw[List.append_assoc,←List.replicate_succ']
        repeat' (first|refine qU ?_|refine qW ?_|((first|apply dX rfl|apply Da rfl rfl|apply Db rfl rfl qN);(focus ((try intro hg);first|exact zan (f:=zad) (us:=b.prios++List.replicate k 32768) (bs := [32768]) rfl rfl (.dat _ _) rfl rfl (.inl rfl) rfl (by simp only[List.length_singleton];omega)|exact qMo));constructor)|refine qP ?_)
        exact zaa (k+1) hlk (by omega) (by rw[hrep];exact Wk_g some rfl rfl kqp)
       ·have hkT:k=d.tree.toNat+1-b.prios.length:=by omega
        have hsp:za9 b.prios d.tree.toNat d.value=(b.prios++List.replicate k 32768).set d.tree.toNat d.value:=by unfold za9;rw[hkT]
        rw[hsp]at hgd hkd ⊢
        generalize b.prios++List.replicate k (32768:Int)=ps at hkl hgd hkd ⊢
        have hps:ps[d.tree.toNat]? = some (ps[d.tree.toNat]'(by omega)):=List.getElem?_eq_getElem _
        generalize ps[d.tree.toNat]'(by omega)=p0 at hps
        have hww:=zbp (f:=zad) (us:=ps.set d.tree.toNat d.value) (n:=ps.length) (by simp)
        have hsv:zcn (zaj b) 1 [V.slice ((((ps.set d.tree.toNat d.value).map zad).drop 0).take ps.length)]=zaj { b with prios:=ps.set d.tree.toNat d.value }:=by rw[hww];rfl
        repeat' (first|(refine dstep rfl (.plain rfl (zcI 210 rfl rfl (zba (f:=zaj) (a := { b with prios:=ps.set d.tree.toNat d.value }) rfl rfl hb rfl hsv (.inl rfl) rfl rfl))) ?_)|refine qU ?_|refine qW ?_|((first|apply dX rfl|apply Da rfl rfl|apply Db rfl rfl qN);(focus ((try intro hg);first|exact zc7 rfl rfl rfl (by omega) (by omega)|exact zba (f:=zad) (a:=d.value) rfl rfl hps rfl rfl (.inl rfl) rfl rfl|exact qMo));constructor)|refine qP ?_)
        refine zaa (i+1,(⟨m.bridges.set d.n.toNat { b with prios:=ps.set d.tree.toNat d.value },m.links⟩,u)) ⟨hlt,hgd rfl,zcb hkd hgu,hkin.trans hkd,rfl⟩ (by simp only;omega) ?_
        dsimp only
        rw[List.length_set]
        exact Wk_g some rfl rfl kqp
    ·rw[zjA (by omega) (by omega) (by omega) h5]
     dsimp only
     rw[if_pos (by decide)]
     repeat' (first|refine qU ?_|refine qW ?_|((first|apply dX rfl|apply Da rfl rfl|apply Db rfl rfl qN);(focus ((try intro hg);first|exact zaf rfl rfl (by omega) hx|exact zaq rfl rfl hbad1|exact qMo));constructor)|refine qP ?_)
     refine gDat (.cellA inferInstance rfl rfl rfl rfl qF (.cellA inferInstance rfl rfl rfl rfl qF (.cellA inferInstance rfl rfl rfl rfl qF .nil))) zav ?_
     rfl
 ·have hdr:l.drop i=[]:=List.drop_eq_nil_of_le (by omega)
  rw[hdr,zaX]
  refine zaZ (s':=⟨[(2,.dat false (.slice (l.map Doing.cells))),(3,.ptr 3 0),(4,.ptr 4 0),(6,.ptr 6 0),(7,.ptr 7 0),(8,.ptr 8 0),(9,.dat true (.fn 58 [])),(57,.dat false (.slice (l.map Doing.cells))),(58,.dat true (.int .i64 (l.map Doing.cells).length)),(59,.dat true (.int .i64 i))],[(3,.cells false true [.own 47 0 0 m.bridges.length,.own 52 0 0 m.links.length]),(4,.cells false true [.dat true (.slice (u.map zae))]),(6,.cells false true [.nil,.nil]),(7,.cells false true [.nil]),(8,.cells false true [.dat true (.int .i64 0),.dat true (.int .i64 0)]),(47,.row 0 false true 5 (m.bridges.map zaj)),(52,.row 0 false true 6 (m.links.map zar))],245⟩) (Wk_g some rfl rfl kqp) ?_
  refine zaD 47 (fun _ _ _ h=>by cases h) ?_
  refine zaD 52 (fun _ _ _ h=>by cases h) ?_
  repeat' (first|refine qU ?_|refine qW ?_|((first|apply dX rfl|apply Da rfl rfl|apply Db rfl rfl qN);(focus ((try intro hg);first|exact qMo));constructor)|refine qP ?_)
  refine gDat (.cellA inferInstance rfl rfl rfl rfl qF (.cellA inferInstance rfl rfl rfl rfl qF (.cellA inferInstance rfl rfl rfl rfl qF .nil))) zav ?_
  have:=zhE m
  unfold onV
  dsimp only
  rw[this]
  rfl
end Go.Proofs.YtcdhlofhhcgohaaGreat
namespace Go.Proofs.YtcdhlofhhcgohaaGreat
open Go.RowKit
theorem zmg (n:Net) (ht:n.typed) (t:List (List Mind)) (hf:n.wrong.1=0→goodT n t∧1≤t.length) (l:List Doing):FnG Tryz.prog 21 (zbM [true,true,false] [n.v,zaO t,.slice (l.map Doing.cells)]) [] (.dat true (onV (onA n t l))) []:=by
 unfold onA
 by_cases h0:n.wrong.1≠0
 ·rw[if_pos h0];exact zrX n ht h0 t l
 ·rw[if_neg h0]
  have h0:n.wrong.1=0:=Decidable.not_not.1 h0
  obtain⟨htt,h1⟩:=hf h0
  by_cases hl:30<l.length
  ·rw[if_pos hl];exact zrY n ht h0 t htt h1 l hl
  ·rw[if_neg hl];exact zrZ n ht h0 t htt h1 l (by omega)
end Go.Proofs.YtcdhlofhhcgohaaGreat
namespace Go.Proofs.YtcdhlofhhcgohaaGreat
open Go.RowKit
attribute [local irreducible] SStep DW DWin DOps zaG zaE zaJ retQ zaN FnF FnG FnI Wk IntKind.wrap IntKind.andI IntKind.orI IntKind.xorI IntKind.andNotI IntKind.shlI IntKind.shrI Net.wrong za3 zah
theorem zlb (n:Net) (ht:n.typed) (trees:Int) (l:List Doing):FnG Tryz.prog 16 (zbM [true,false,false] [n.v,.int .i64 trees,.slice (l.map Doing.cells)]) [] (.dat true (onV (zdS n trees l))) []:=by
 refine zbj Tryz.func16 rfl rfl rfl ?_
 simp only[zbM,envD]
 have hs:=ziA n ht trees
 unfold zdS
 rcases zdl n trees with⟨h1,h2⟩|⟨h0,h1,h2,he⟩
 ·rw[if_pos h1]
  rw[h2]at hs
  generalize (zbN n trees).2=f at hs h1 ⊢
  obtain⟨e,i⟩:=f
  simp only at h1
  repeat' (first|refine qU ?_|refine qW ?_|((first|apply dX rfl|apply Da rfl rfl|apply Db rfl rfl qN);(focus ((try intro hg);first|exact zac hs rfl|exact qMo));constructor)|refine qP ?_)
  refine gDat (.cellA inferInstance rfl rfl rfl rfl qF (.cellA inferInstance rfl rfl rfl rfl qF (.cellA inferInstance rfl rfl rfl rfl qF .nil))) zav ?_
  rfl
 ·rw[he]at hs ⊢
  have hon:=zmg n ht (start0 n trees.toNat) (fun _=>⟨zc3 (by omega),by simp[start0];omega⟩) l
  simp only at hs
  simp only[ne_eq,not_true_eq_false,if_false]
  generalize onA n (start0 n trees.toNat) l=r at hon ⊢
  obtain⟨o,f⟩:=r
  cases o with
  | none =>
   repeat' (first|refine qU ?_|refine qW ?_|((first|apply dX rfl|apply Da rfl rfl|apply Db rfl rfl qN);(focus ((try intro hg);first|exact zac hs rfl|exact zjq [true,true,false] hon (fun m' hag=>⟨(zbx hag).trans rfl,⟨rfl,rfl,trivial⟩⟩)|exact qMo));constructor)|refine qP ?_)
   refine gDat (.cellA inferInstance rfl rfl rfl rfl qF (.cellA inferInstance rfl rfl rfl rfl qF (.cellA inferInstance rfl rfl rfl rfl qF .nil))) zav ?_
   rfl
  | some p =>
   repeat' (first|refine qU ?_|refine qW ?_|((first|apply dX rfl|apply Da rfl rfl|apply Db rfl rfl qN);(focus ((try intro hg);first|exact zac hs rfl|exact zjq [true,true,false] hon (fun m' hag=>⟨(zbx hag).trans rfl,⟨rfl,rfl,trivial⟩⟩)|exact qMo));constructor)|refine qP ?_)
   refine gDat (.cellA inferInstance rfl rfl rfl rfl qF (.cellA inferInstance rfl rfl rfl rfl qF (.cellA inferInstance rfl rfl rfl rfl qF .nil))) zav ?_
   rfl
end Go.Proofs.YtcdhlofhhcgohaaGreat
