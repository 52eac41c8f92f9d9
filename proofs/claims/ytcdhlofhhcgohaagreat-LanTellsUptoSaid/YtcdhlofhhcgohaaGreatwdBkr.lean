/- Contracts: books, as the document has them. -/
import Derived.Test.YtcdhlofhhcgohaaGreatwcIns
import Derived.Test.YtcdhlofhhcgohaaGreatwdBkw
namespace Go.Proofs.YtcdhlofhhcgohaaGreat
open Go.RowKit
theorem zsY (e:Ent):eqL (entV e) (entV e)=some true:=by simp[entV,eqL,V.eq1]
attribute [local irreducible] SStep DW DWin DOps zaG zaE zaJ retQ zaN FnF FnG Wk IntKind.wrap IntKind.andI IntKind.orI IntKind.xorI IntKind.andNotI IntKind.shlI IntKind.shrI Ent.cmp bsG
theorem zim (l:List Ent) (hl:l.length≤4194304):FnG Tryz.prog 65 [.dat false (.slice (l.map entV))] [] (.own 1000 0 0 l.length) [(1000,.row 0 false true 4 (l.map entV))]:=by
 refine zbj Tryz.func65 rfl rfl rfl ?_
 simp only[envD]
 repeat' (first|refine zct rfl rfl rfl (fun h=>?_) ?_|(apply dt rfl;case h=>exact zb8 (els := []) _ rfl rfl rfl rfl rfl)|refine qU ?_|((first|apply dX rfl|apply Da rfl rfl|apply Db rfl rfl qN);(focus ((try intro hg);first|exact zan (f:=entV) (us := []) (bs:=l) rfl rfl (.dat _ _) rfl rfl (.inr ⟨rfl,inferInstance⟩) rfl (by simp;omega)|exact qM));constructor)|refine qP ?_)
 ·have:l=[]:=by simpa using h
  subst this
  exact gOwn (Wk_g (fun _=>none) rfl rfl kq)
 ·exact gOwn (Wk_g (fun g=>if g=1000 then some 5 else none) rfl rfl kq)
theorem znA (a:Int):FnF Tryz.prog 144 [.int .u64 a] (.bool (zji a)):=by
 refine zal Tryz.func144 rfl rfl rfl ?_
 simp only[zap]
 repeat' (first|refine qU ?_|((first|apply dX rfl|apply Da rfl rfl|apply Db rfl rfl qN);(focus ((try intro hg);first|exact qM));constructor)|refine qP ?_)
 exact ret1 rfl (.inl rfl) rfl
set_option maxHeartbeats 2000000 in
theorem zlO (l:List Ent) (v a p:Int) (hl:l.length≤4194304):FnG Tryz.prog 118 [.dat false (.slice (l.map entV)),.dat false (.int .i64 v),.dat false (.int .u64 a),.dat false (.int .i64 p)] []
  (.own 1000 0 0 (zaU l v a p).length) [(1000,.row 0 false true 4 ((zaU l v a p).map entV))]:=by
 refine zbj Tryz.func118 rfl rfl rfl ?_
 simp only[envD]
 have hc:=zim l hl
 have hf:FnF Tryz.prog 145 [.slice (((l.map entV).drop 0).take l.length),.int .i64 v,.int .u64 a] (.tuple [.int .i64 (zcd l v a),.bool (zd8 l v a)]):=by rw[zbp rfl];exact zkC l v a hl
 repeat' (first|refine qU ?_|refine zat rfl (fun hb=>?_) (fun hb=>?_)|(apply dt rfl;case h=>first|exact zaB _ hc rfl rfl (.own _ _))|((first|apply dX rfl|apply Da rfl rfl|apply Db rfl rfl qN);(focus ((try intro hg);first|exact zaB _ hc rfl rfl (.own _ _)|exact zac (znA a) rfl|exact qM));constructor)|refine qP ?_)
 ·have hp:zd9 v a p=true:=hb
  have hL:zaU l v a p=l:=by unfold zaU;rw[if_pos hp]
  rw[hL]
  exact gOwn (Wk_g (fun g=>if g=1000 then some 14 else none) rfl rfl kq)
 ·have hp:¬zd9 v a p=true:=by
   intro h
   have:zd9 v a p=false:=hb
   rw[this]at h;cases h
  have hle:=zrb l v a
  by_cases hB:zd8 l v a=true
  ·have hi:zcd l v a<l.length:=by unfold zd8 at hB;simp only[Bool.and_eq_true,decide_eq_true_eq]at hB;exact hB.1
   have hL:zaU l v a p=l.set (zcd l v a) ⟨v,a,p,0⟩:=by unfold zaU;rw[if_neg hp,if_pos hB]
   rw[hL]
   rw[hB]at hf
   generalize zcd l v a=i at hf hi
   have hx0:l[(i:Int).toNat]? = some (l[i]'hi):=by rw[Int.toNat_natCast];exact List.getElem?_eq_getElem hi
   repeat' (first|refine qU ?_|((first|apply dX rfl|apply Da rfl rfl|apply Db rfl rfl qN);(focus ((try intro hg);first|exact zac hf rfl|exact zc7 rfl rfl rfl (by omega) (by simpa using hi)|exact zba (f:=entV) (a:=⟨v,a,p,0⟩) rfl rfl hx0 rfl rfl (.inr ⟨rfl,inferInstance⟩) rfl rfl|exact qM));constructor)|refine qP ?_)
   rw[show l.set i (⟨v,a,p,0⟩:Ent)=l.set (i:Int).toNat ⟨v,a,p,0⟩ by rw[Int.toNat_natCast]]
   rw[List.length_set]
   exact gOwn (Wk_g (fun g=>if g=1000 then some 14 else none) rfl rfl kq)
  ·have hB':zd8 l v a=false:=by simpa using hB
   rw[hB']at hf
   by_cases h30:l.length<30
   ·have hL:zaU l v a p=insL l (zcd l v a) ⟨v,a,p,0⟩:=by unfold zaU insL;rw[if_neg hp,if_neg hB,if_pos h30]
    rw[hL]
    have hI:=zlN l ⟨v,a,p,0⟩ (zcd l v a) hle (by omega)
    generalize zcd l v a=i at hf hle hI
    repeat' (first|refine qU ?_|((first|apply dX rfl|apply Da rfl rfl|apply Db rfl rfl qN);(focus ((try intro hg);first|exact zac hf rfl|exact zab (zam rfl rfl) (decide_eq_true (by omega:(l.length:Int)<30))|exact zqJ 14 hI rfl rfl (.own _ _)|exact qM));constructor)|refine qP ?_)
    exact gOwn (Wk_g (fun g=>if g=1000 then some 14 else none) rfl rfl kq)
   ·have hL:zaU l v a p=l:=by unfold zaU;rw[if_neg hp,if_neg hB,if_neg h30]
    rw[hL]
    repeat' (first|refine qU ?_|((first|apply dX rfl|apply Da rfl rfl|apply Db rfl rfl qN);(focus ((try intro hg);first|exact zac hf rfl|exact zab (zam rfl rfl) (decide_eq_false (by omega:¬(l.length:Int)<30))|exact qM));constructor)|refine qP ?_)
    exact gOwn (Wk_g (fun g=>if g=1000 then some 14 else none) rfl rfl kq)
theorem znB (l:List Ent) (v a p:Int) (hl:l.length≤4194304):FnF Tryz.prog 118 [.slice (l.map entV),.int .i64 v,.int .u64 a,.int .i64 p] (.slice ((zaU l v a p).map entV)) :=
 zdV (ds := [.slice (l.map entV),.int .i64 v,.int .u64 a,.int .i64 p]) (zlO l v a p hl) (by simp)
set_option maxHeartbeats 1000000 in
theorem zpq (l:List Ent):FnF Tryz.prog 30 [.slice (l.map entV),.slice (l.map entV)] (.bool true):=by
 refine zal Tryz.func30 rfl rfl rfl ?_
 simp only[zap]
 have hml:(l.map entV).length=l.length:=by simp
 repeat' (first|refine qU ?_|((first|apply dX rfl|apply Da rfl rfl|apply Db rfl rfl qN);(focus ((try intro hg);first|exact zab (za1 rfl rfl) (zsI _)|exact qM));constructor)|refine qP ?_)
 refine zbY 0 rfl (fun hlen=>?_)
 refine zag (fun k:Nat=>⟨[(0,.dat false (.slice (l.map entV))),(1,.dat false (.slice (l.map entV))),(12,.dat true (.int .i64 (l.map entV).length)),(13,.dat true (.int .i64 k))],[],26⟩)
  (fun k=>k≤l.length) (fun k=>l.length-k) 0 (Nat.zero_le _)
  (Wk_g some rfl rfl kq) (fun k hk=>?_)
 by_cases hlt:k<l.length
 ·have hx:l[(k:Int).toNat]? = some l[k]:=by simp[hlt]
  generalize l[k]=e at hx
  have he:(!true)=false:=rfl
  repeat' (first|refine qU ?_|((first|apply dX rfl|apply Da rfl rfl|apply Db rfl rfl qN);(focus ((try intro hg);first|exact zab (zam rfl rfl) (decide_eq_true (by omega:(k:Int)<((l.map entV).length:Int)))|exact zaf rfl rfl (by omega) hx|exact zab (zdU rfl rfl rfl rfl (zsY e)) he|exact qM));constructor)|refine qP ?_)
  exact zaa (k+1) hlt (by omega) (Wk_g some rfl rfl kq)
 ·repeat' (first|refine qU ?_|((first|apply dX rfl|apply Da rfl rfl|apply Db rfl rfl qN);(focus ((try intro hg);first|exact zab (zam rfl rfl) (decide_eq_false (by omega:¬(k:Int)<((l.map entV).length:Int)))|exact qM));constructor)|refine qP ?_)
  exact ret1 rfl (.inl rfl) rfl
end Go.Proofs.YtcdhlofhhcgohaaGreat
namespace Go.Proofs.YtcdhlofhhcgohaaGreat
open Go.RowKit
theorem zri {x:Int} (h0:0≤x) (h1:x<18446744073709551616):IntKind.u64.andI x 1=x % 2:=by
 obtain⟨n,rfl⟩:=Int.eq_ofNat_of_zero_le h0
 unfold IntKind.andI
 have hb:IntKind.u64.bits=64:=rfl
 have e1:(BitVec.ofInt 64 (n:Int) &&& BitVec.ofInt 64 1).toNat=n % 2:=by
  rw[BitVec.toNat_and]
  have q1:(BitVec.ofInt 64 (n:Int)).toNat=n:=by
   rw[BitVec.toNat_ofInt]
   omega
  have q2:(BitVec.ofInt 64 (1:Int)).toNat=1:=rfl
  rw[q1,q2,Nat.and_one_is_mod]
 rw[hb,e1]
 have:IntKind.u64.wrap ((n % 2:Nat):Int)=((n % 2:Nat):Int):=wrap_in (by simp only[InK];omega)
 rw[this]
 omega
theorem zpr {a:Int} (h0:0≤a) (h1:a≤18446744073709551615):IntKind.u64.andI (IntKind.u64.shrI a 40) 1=a / 1099511627776 % 2:=by
 have e:(2:Int) ^ (min (40:Int).toNat IntKind.u64.bits)=1099511627776:=by decide
 have hs:IntKind.u64.shrI a 40=a / 1099511627776:=by
  unfold IntKind.shrI
  rw[e,Int.fdiv_eq_ediv_of_nonneg _ (by decide)]
 rw[hs]
 exact zri (by omega) (by omega)
attribute [local irreducible] SStep DW DWin DOps zaG zaE zaJ retQ zaN FnF FnG Wk IntKind.wrap IntKind.andI IntKind.orI IntKind.xorI IntKind.andNotI IntKind.shlI IntKind.shrI Ent.cmp bsG zcc zaU zck zhU
theorem znC {l:List Ent} (h:rightB l) (v a:Int):FnF Tryz.prog 119 [.slice (l.map entV),.int .i64 v,.int .u64 a] (.tuple [.int .i64 (zck l v a).1,.bool (zck l v a).2]):=by
 rw[←look_eq h.s]
 exact zpm l v a (by have:=h.n;omega)
end Go.Proofs.YtcdhlofhhcgohaaGreat
namespace Go.Proofs.YtcdhlofhhcgohaaGreat
open Go.RowKit
theorem znD (e:Ent) (r:List Ent) (v a:Int):zck (e::r) v a=if e.is v a then(e.port,true)else zck r v a:=by
 unfold zck
 rw[List.find?_cons]
 by_cases h:e.is v a<;>simp[h]
def zbl (v a p:Int):List Ent→Bool→Bool→List Ent→List Ent×Bool×Bool
 | [],put,had,out=>(out,put,had)
 | x::r,put,had,out=>if x.is v a then zbl v a p r put true out else if put=false∧(⟨v,a,p,0⟩:Ent).lt x.vid x.addr then zbl v a p r true had (out++[⟨v,a,p,0⟩]++[x])else zbl v a p r put had (out++[x])
def zps (v a p:Int) (s:List Ent×Bool×Bool):List Ent:=if s.2.1 then s.1 else s.1++[⟨v,a,p,0⟩]
def zff (l:List Ent) (v a p:Int):List Ent :=
 if zd9 v a p then l else if(zbl v a p l false false []).2.2=false∧30≤l.length then l else zps v a p (zbl v a p l false false [])
theorem ztI {v a p:Int} {l1:List Ent} (h:∀ x∈l1,x.lt v a):∀ (r out:List Ent) (put had:Bool),zbl v a p (l1++r) put had out=zbl v a p r put had (out++l1):=by
 induction l1 with
 | nil=>intro r out put had;simp
 | cons x l1 ih =>
  intro r out put had
  have hx:=h x (List.mem_cons.2 (.inl rfl))
  have hn:¬(put=false∧(⟨v,a,p,0⟩:Ent).lt x.vid x.addr):=by unfold Ent.lt at *;simp only;omega
  rw[List.cons_append,zbl,if_neg (zlK hx),if_neg hn,ih (fun y hy=>h y (List.mem_cons.2 (.inr hy)))]
  simp
theorem ztJ {v a p:Int} {r:List Ent} (h:∀ x∈r,v<x.vid∨v=x.vid∧a<x.addr):∀ (out:List Ent) (had:Bool),zbl v a p r true had out=(out++r,true,had):=by
 induction r with
 | nil=>intro out had;simp[zbl]
 | cons x r ih =>
  intro out had
  have hx:=h x (List.mem_cons.2 (.inl rfl))
  rw[zbl,if_neg (by unfold Ent.is;omega),if_neg (by simp),ih (fun y hy=>h y (List.mem_cons.2 (.inr hy)))]
  simp
theorem ztK {v a p:Int} {r:List Ent} (h:∀ x∈r,v<x.vid∨v=x.vid∧a<x.addr) (out:List Ent) (had:Bool):zps v a p (zbl v a p r false had out)=out++⟨v,a,p,0⟩::r∧(zbl v a p r false had out).2.2=had:=by
 cases r with
 | nil=>simp[zbl,zps]
 | cons x r =>
  have hx:=h x (List.mem_cons.2 (.inl rfl))
  rw[zbl,if_neg (by unfold Ent.is;omega),if_pos ⟨rfl,hx⟩,ztJ (fun y hy=>h y (List.mem_cons.2 (.inr hy)))]
  simp[zps]
theorem zkE {l:List Ent} (hr:rightB l) (v a p:Int):zff l v a p=zaU l v a p:=by
 unfold zff
 by_cases hp:zd9 v a p=true
 ·rw[if_pos hp,zik hp]
 rw[if_neg hp]
 have hp:zd9 v a p=false:=by simpa using hp
 rcases see hr.s v a with⟨l1,e,r,rfl,h1,he,h2⟩|⟨l1,l2,rfl,h1,h2⟩
 ·rw[zky h1 he h2 hp,ztI h1,zbl,if_pos he]
  obtain⟨k1,k2⟩:=ztK (p:=p) (zkA he h2) ([]++l1) true
  rw[k1,k2,if_neg (by simp)]
  simp
 ·obtain⟨k1,k2⟩:=ztK (p:=p) h2 ([]++l1) false
  rw[ztI h1,k1,k2]
  by_cases hf:(l1++l2).length<30
  ·rw[zkz h1 h2 hp hf,if_neg (by omega)]
   simp
  ·rw[zij h1 h2 hf,if_pos ⟨rfl,by omega⟩]
attribute [local irreducible] SStep DW DWin DOps zaG zaE zaJ retQ zaN FnF FnG Wk IntKind.wrap IntKind.andI IntKind.orI IntKind.xorI IntKind.andNotI IntKind.shlI IntKind.shrI Ent.cmp bsG zck
theorem zin (x y:Ent):FnF Tryz.prog 75 [.agg (entV x),.agg (entV y)] (.bool (decide (x.lt y.vid y.addr))):=by
 refine zal Tryz.func75 rfl rfl rfl ?_
 simp only[zap]
 repeat' (first|refine qU ?_|((first|apply dX rfl|apply Da rfl rfl|apply Db rfl rfl qN);(focus ((try intro hg);first|exact qM));constructor)|refine qP ?_)
 refine ret1 rfl (.inl rfl) ?_
 refine congrArg V.bool ?_
 rw[Bool.eq_iff_iff,decide_eq_true_iff]
 simp only[Bool.or_eq_true,Bool.and_eq_true,decide_eq_true_eq]
 exact Iff.rfl
set_option maxHeartbeats 2000000 in
theorem znE (l:List Ent):FnF Tryz.prog 29 [.slice (l.map entV)] (zb1 (zcc l)):=by
 refine zal Tryz.func29 rfl rfl rfl ?_
 simp only[zap]
 have hml:(l.map entV).length=l.length:=by simp
 unfold zcc
 by_cases h30:30<l.length
 ·rw[if_pos h30]
  repeat' (first|refine qU ?_|((first|apply dX rfl|apply Da rfl rfl|apply Db rfl rfl qN);(focus ((try intro hg);first|exact zab (zbr rfl rfl) (decide_eq_true (by omega:(30:Int)<((l.map entV).length:Int)))|exact qM));constructor)|refine qP ?_)
  refine retN (.cellA inferInstance rfl rfl rfl rfl qF .nil) ?_
  rfl
 rw[if_neg h30]
 repeat' (first|refine qU ?_|((first|apply dX rfl|apply Da rfl rfl|apply Db rfl rfl qN);(focus ((try intro hg);first|exact zab (zbr rfl rfl) (decide_eq_false (by omega:¬(30:Int)<((l.map entV).length:Int)))|exact qM));constructor)|refine qP ?_)
 refine zag (fun k:Nat=>⟨[(0,.dat false (.slice (l.map entV))),(2,.ptr 2 0),(9,.dat false (.slice (l.map entV))),(10,.dat true (.int .i64 (l.map entV).length)),(11,.dat true (.int .i64 k))],[(2,.cells false true [.dat true (.int .i64 0),.dat true (.int .i64 0)])],67⟩)
  (fun k=>k≤l.length∧zhT none 0 l=zhT (zf9 l k) k (l.drop k)) (fun k=>l.length-k) 0 ⟨Nat.zero_le _,rfl⟩
  (Wk_g some rfl rfl kq) (fun k hR=>?_)
 obtain⟨hk,hw⟩:=hR
 by_cases hlt:k<l.length
 ·have hx:l[(k:Int).toNat]? = some l[k]:=by simp[hlt]
  have hn:l.drop k=l[k]::l.drop (k+1):=List.drop_eq_getElem_cons hlt
  have hlast:zf9 l (k+1)=some l[k]:=by simp[zf9,hlt]
  generalize l[k]=t at hx hn hlast
  rw[hn,zhT]at hw
  rcases k with - | j
  ·have h00:zf9 l 0=none:=rfl
   rw[h00]at hw
   repeat' (first|refine qU ?_|refine zat rfl (fun hb=>?_) (fun hb=>?_)|((first|apply dX rfl|apply Da rfl rfl|apply Db rfl rfl qN);(focus ((try intro hg);first|exact zab (zam rfl rfl) (decide_eq_true (by omega:((0:Nat):Int)<((l.map entV).length:Int)))|exact zaf rfl rfl (by omega) hx|exact zab (b:=false) (zbr rfl rfl) rfl|exact qM));constructor)|refine qP ?_)
   ·simp only[Bool.or_eq_true,decide_eq_true_eq]at hb
    rw[hw,if_pos (by unfold Ent.bad;omega)]
    refine retN (.cellA inferInstance rfl rfl rfl rfl qF .nil) ?_
    rfl
   ·simp only[Bool.or_eq_false_iff,decide_eq_false_iff_not]at hb
    refine zaa (0+1) ⟨hlt,?_⟩ (by omega) (Wk_g some rfl rfl kq)
    rw[hw,if_neg (by unfold Ent.bad;omega),if_neg (by simp),hlast]
  ·have hj:j<l.length:=by omega
   have hx2:l[(((j+1:Nat):Int)-1).toNat]? = some l[j]:=by
    rw[show(((j+1:Nat):Int)-1).toNat=j by omega];exact List.getElem?_eq_getElem hj
   have h00:zf9 l (j+1)=some l[j]:=by simp[zf9,hj]
   generalize l[j]=q at hx2 h00
   rw[h00]at hw
   have ho:=zin q t
   repeat' (first|refine qU ?_|refine zat rfl (fun hb=>?_) (fun hb=>?_)|((first|apply dX rfl|apply Da rfl rfl|apply Db rfl rfl qN);(focus ((try intro hg);first|exact zab (zam rfl rfl) (decide_eq_true (by omega:((j+1:Nat):Int)<((l.map entV).length:Int)))|exact zaf rfl rfl (by omega) hx|exact zaf rfl rfl (by omega) hx2|exact zac ho rfl|exact zab (zbr rfl rfl) (decide_eq_true (by omega:(0:Int)<((j+1:Nat):Int)))|exact qM));constructor)|refine qP ?_)
   ·simp only[Bool.or_eq_true,decide_eq_true_eq]at hb
    rw[hw,if_pos (by unfold Ent.bad;omega)]
    refine retN (.cellA inferInstance rfl rfl rfl rfl qF .nil) ?_
    rfl
   ·rename_i hb1
    simp only[Bool.or_eq_false_iff,Bool.not_eq_true',decide_eq_false_iff_not]at hb hb1
    rw[hw,if_neg (by unfold Ent.bad;omega),if_pos (by simpa using hb)]
    refine retN (.cellA inferInstance rfl rfl rfl rfl qF .nil) ?_
    rfl
   ·rename_i hb1
    simp only[Bool.or_eq_false_iff,Bool.not_eq_false',decide_eq_true_eq,decide_eq_false_iff_not]at hb hb1
    refine zaa (j+1+1) ⟨by omega,?_⟩ (by omega) (Wk_g some rfl rfl kq)
    rw[hw,if_neg (by unfold Ent.bad;omega),if_neg (by simpa using hb),hlast]
 ·repeat' (first|refine qU ?_|((first|apply dX rfl|apply Da rfl rfl|apply Db rfl rfl qN);(focus ((try intro hg);first|exact zab (zam rfl rfl) (decide_eq_false (by omega:¬(k:Int)<((l.map entV).length:Int)))|exact qM));constructor)|refine qP ?_)
  rw[hw,List.drop_eq_nil_of_le (by omega)]
  refine retN (.cellA inferInstance rfl rfl rfl rfl qF .nil) ?_
  rfl
set_option maxHeartbeats 1000000 in
theorem zkF (l:List Ent) (v a:Int):FnF Tryz.prog 125 [.slice (l.map entV),.int .i64 v,.int .u64 a] (.tuple [.int .i64 (zck l v a).1,.bool (zck l v a).2]):=by
 refine zal Tryz.func125 rfl rfl rfl ?_
 simp only[zap]
 refine zbY 0 rfl (fun hlen=>?_)
 have hml:(l.map entV).length=l.length:=by simp
 repeat' (first|refine qU ?_|((first|apply dX rfl|apply Da rfl rfl|apply Db rfl rfl qN);(focus ((try intro hg);first|exact qM));constructor)|refine qP ?_)
 refine zag (fun k:Nat=>⟨[(1,.dat false (.int .i64 v)),(2,.dat false (.int .u64 a)),(10,.dat false (.slice (l.map entV))),(11,.dat true (.int .i64 (l.map entV).length)),(12,.dat true (.int .i64 k))],[],29⟩)
  (fun k=>k≤l.length∧zck l v a=zck (l.drop k) v a) (fun k=>l.length-k) 0 ⟨Nat.zero_le _,rfl⟩
  (Wk_g some rfl rfl kq) (fun k hR=>?_)
 obtain⟨hk,hw⟩:=hR
 by_cases hlt:k<l.length
 ·have hx:l[(k:Int).toNat]? = some l[k]:=by simp[hlt]
  have hn:l.drop k=l[k]::l.drop (k+1):=List.drop_eq_getElem_cons hlt
  generalize l[k]=t at hx hn
  rw[hn,znD]at hw
  repeat' (first|refine qU ?_|refine zat rfl (fun hb=>?_) (fun hb=>?_)|((first|apply dX rfl|apply Da rfl rfl|apply Db rfl rfl qN);(focus ((try intro hg);first|exact zab (zam rfl rfl) (decide_eq_true (by omega:(k:Int)<((l.map entV).length:Int)))|exact zaf rfl rfl (by omega) hx|exact qM));constructor)|refine qP ?_)
  ·simp only[Bool.and_eq_true,decide_eq_true_eq]at hb
   rw[hw,if_pos (show t.is v a from hb)]
   exact retN (.tmp rfl (.inr (.int _ _)) (.tmp rfl (.inl rfl) .nil)) rfl
  ·have hb':¬t.is v a:=by
    intro h
    simp[h.1,h.2]at hb
   exact zaa (k+1) ⟨hlt,by rw[hw,if_neg hb']⟩ (by omega) (Wk_g some rfl rfl kq)
 ·repeat' (first|refine qU ?_|((first|apply dX rfl|apply Da rfl rfl|apply Db rfl rfl qN);(focus ((try intro hg);first|exact zab (zam rfl rfl) (decide_eq_false (by omega:¬(k:Int)<((l.map entV).length:Int)))|exact qM));constructor)|refine qP ?_)
  rw[hw,List.drop_eq_nil_of_le (by omega),zmK (l := []) (by simp)]
  exact retN (.tmp rfl (.inl rfl) (.tmp rfl (.inl rfl) .nil)) rfl
end Go.Proofs.YtcdhlofhhcgohaaGreat
