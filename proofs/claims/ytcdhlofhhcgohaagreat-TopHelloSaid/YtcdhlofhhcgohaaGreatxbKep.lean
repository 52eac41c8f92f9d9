/- Calls whose answer may hold on to some of the arguments, while others are lent for the time of the call alone. -/
import Derived.Test.YtcdhlofhhcgohaaGreatxcIns
import Derived.Test.YtcdhlofhhcgohaaGreatxcInw
import Derived.Test.YtcdhlofhhcgohaaGreatxcBkL
import Derived.Test.YtcdhlofhhcgohaaGreatxbMake
import Derived.Test.YtcdhlofhhcgohaaGreatxcMd5
import Derived.Test.YtcdhlofhhcgohaaGreatxcBo1
import Derived.Test.YtcdhlofhhcgohaaGreatxdPlS
import Derived.Test.YtcdhlofhhcgohaaGreatxbOwn
namespace Go.Proofs.YtcdhlofhhcgohaaGreat
open Go.RowKit
theorem eqL_ent (e:Ent):eqL (entV e) (entV e)=some true:=by simp[entV,eqL,V.eq1]
attribute [local irreducible] SStep DW DWin DOps thenQ inBlk loopQ retQ retQG FnF FnG Wk IntKind.wrap IntKind.andI IntKind.orI IntKind.xorI IntKind.andNotI IntKind.shlI IntKind.shrI Ent.cmp bsG
theorem clone_ents (l:List Ent) (hl:l.length≤4194304):FnG Tryz.prog 65 [.dat false (.slice (l.map entV))] [] (.own 1000 0 0 l.length) [(1000,.row 0 false true 4 (l.map entV))]:=by
 refine fnG_of Tryz.func65 rfl rfl rfl ?_
 simp only[envD]
 repeat' (first|refine DW_isnil rfl rfl rfl (fun h=>?_) ?_|(apply dt rfl;case h=>exact S_litO (els := []) _ rfl rfl rfl rfl rfl)|refine qU ?_|((first|apply dX rfl|apply Da rfl rfl|apply Db rfl rfl qN);(focus ((try intro hg);first|exact S_appM (f:=entV) (us := []) (bs:=l) rfl rfl (.dat _ _) rfl rfl (.inr ⟨rfl,inferInstance⟩) rfl (by simp;omega)|exact qM));constructor)|refine qP ?_)
 ·have:l=[]:=by simpa using h
  subst this
  exact gOwn (Wk_g (fun _=>none) rfl rfl kq)
 ·exact gOwn (Wk_g (fun g=>if g=1000 then some 5 else none) rfl rfl kq)
theorem book_group (a:Int):FnF Tryz.prog 144 [.int .u64 a] (.bool (isGroup a)):=by
 refine fnF_of Tryz.func144 rfl rfl rfl ?_
 simp only[envOf]
 repeat' (first|refine qU ?_|((first|apply dX rfl|apply Da rfl rfl|apply Db rfl rfl qN);(focus ((try intro hg);first|exact qM));constructor)|refine qP ?_)
 exact ret1 rfl (.inl rfl) rfl
set_option maxHeartbeats 2000000 in
theorem book_LearnG (l:List Ent) (v a p:Int) (hl:l.length≤4194304):FnG Tryz.prog 118 [.dat false (.slice (l.map entV)),.dat false (.int .i64 v),.dat false (.int .u64 a),.dat false (.int .i64 p)] []
  (.own 1000 0 0 (learnL l v a p).length) [(1000,.row 0 false true 4 ((learnL l v a p).map entV))]:=by
 refine fnG_of Tryz.func118 rfl rfl rfl ?_
 simp only[envD]
 have hc:=clone_ents l hl
 have hf:FnF Tryz.prog 145 [.slice (((l.map entV).drop 0).take l.length),.int .i64 v,.int .u64 a] (.tuple [.int .i64 (findI l v a),.bool (findB l v a)]):=by rw[whole_eq rfl];exact book_find l v a hl
 repeat' (first|refine qU ?_|refine DW_cond rfl (fun hb=>?_) (fun hb=>?_)|(apply dt rfl;case h=>first|exact S_callG0 _ hc rfl rfl (.own _ _))|((first|apply dX rfl|apply Da rfl rfl|apply Db rfl rfl qN);(focus ((try intro hg);first|exact S_callG0 _ hc rfl rfl (.own _ _)|exact S_call (book_group a) rfl|exact qM));constructor)|refine qP ?_)
 ·have hp:putsB v a p=true:=hb
  have hL:learnL l v a p=l:=by unfold learnL;rw[if_pos hp]
  rw[hL]
  exact gOwn (Wk_g (fun g=>if g=1000 then some 14 else none) rfl rfl kq)
 ·have hp:¬putsB v a p=true:=by
   intro h
   have:putsB v a p=false:=hb
   rw[this]at h;cases h
  have hle:=findI_le l v a
  by_cases hB:findB l v a=true
  ·have hi:findI l v a<l.length:=by unfold findB at hB;simp only[Bool.and_eq_true,decide_eq_true_eq]at hB;exact hB.1
   have hL:learnL l v a p=l.set (findI l v a) ⟨v,a,p,0⟩:=by unfold learnL;rw[if_neg hp,if_pos hB]
   rw[hL]
   rw[hB]at hf
   generalize findI l v a=i at hf hi
   have hx0:l[(i:Int).toNat]? = some (l[i]'hi):=by rw[Int.toNat_natCast];exact List.getElem?_eq_getElem hi
   repeat' (first|refine qU ?_|((first|apply dX rfl|apply Da rfl rfl|apply Db rfl rfl qN);(focus ((try intro hg);first|exact S_call hf rfl|exact S_ixO rfl rfl rfl (by omega) (by simpa using hi)|exact S_storeM (f:=entV) (a:=⟨v,a,p,0⟩) rfl rfl hx0 rfl rfl (.inr ⟨rfl,inferInstance⟩) rfl rfl|exact qM));constructor)|refine qP ?_)
   rw[show l.set i (⟨v,a,p,0⟩:Ent)=l.set (i:Int).toNat ⟨v,a,p,0⟩ by rw[Int.toNat_natCast]]
   rw[List.length_set]
   exact gOwn (Wk_g (fun g=>if g=1000 then some 14 else none) rfl rfl kq)
  ·have hB':findB l v a=false:=by simpa using hB
   rw[hB']at hf
   by_cases h30:l.length<30
   ·have hL:learnL l v a p=insL l (findI l v a) ⟨v,a,p,0⟩:=by unfold learnL insL;rw[if_neg hp,if_neg hB,if_pos h30]
    rw[hL]
    have hI:=insert_ents l ⟨v,a,p,0⟩ (findI l v a) hle (by omega)
    generalize findI l v a=i at hf hle hI
    repeat' (first|refine qU ?_|((first|apply dX rfl|apply Da rfl rfl|apply Db rfl rfl qN);(focus ((try intro hg);first|exact S_call hf rfl|exact as_bool (S_lss rfl rfl) (decide_eq_true (by omega:(l.length:Int)<30))|exact S_callG1 14 hI rfl rfl (.own _ _)|exact qM));constructor)|refine qP ?_)
    exact gOwn (Wk_g (fun g=>if g=1000 then some 14 else none) rfl rfl kq)
   ·have hL:learnL l v a p=l:=by unfold learnL;rw[if_neg hp,if_neg hB,if_neg h30]
    rw[hL]
    repeat' (first|refine qU ?_|((first|apply dX rfl|apply Da rfl rfl|apply Db rfl rfl qN);(focus ((try intro hg);first|exact S_call hf rfl|exact as_bool (S_lss rfl rfl) (decide_eq_false (by omega:¬(l.length:Int)<30))|exact qM));constructor)|refine qP ?_)
    exact gOwn (Wk_g (fun g=>if g=1000 then some 14 else none) rfl rfl kq)
theorem book_Learn (l:List Ent) (v a p:Int) (hl:l.length≤4194304):FnF Tryz.prog 118 [.slice (l.map entV),.int .i64 v,.int .u64 a,.int .i64 p] (.slice ((learnL l v a p).map entV)) :=
 fnF_own (ds := [.slice (l.map entV),.int .i64 v,.int .u64 a,.int .i64 p]) (book_LearnG l v a p hl) (by simp)
set_option maxHeartbeats 1000000 in
theorem ref8_Same (l:List Ent):FnF Tryz.prog 30 [.slice (l.map entV),.slice (l.map entV)] (.bool true):=by
 refine fnF_of Tryz.func30 rfl rfl rfl ?_
 simp only[envOf]
 have hml:(l.map entV).length=l.length:=by simp
 repeat' (first|refine qU ?_|((first|apply dX rfl|apply Da rfl rfl|apply Db rfl rfl qN);(focus ((try intro hg);first|exact as_bool (S_neq rfl rfl) (ne_self _)|exact qM));constructor)|refine qP ?_)
 refine DW_len 0 rfl (fun hlen=>?_)
 refine DW_loop (fun k:Nat=>⟨[(0,.dat false (.slice (l.map entV))),(1,.dat false (.slice (l.map entV))),(12,.dat true (.int .i64 (l.map entV).length)),(13,.dat true (.int .i64 k))],[],26⟩)
  (fun k=>k≤l.length) (fun k=>l.length-k) 0 (Nat.zero_le _)
  (Wk_g some rfl rfl kq) (fun k hk=>?_)
 by_cases hlt:k<l.length
 ·have hx:l[(k:Int).toNat]? = some l[k]:=by simp[hlt]
  generalize l[k]=e at hx
  have he:(!true)=false:=rfl
  repeat' (first|refine qU ?_|((first|apply dX rfl|apply Da rfl rfl|apply Db rfl rfl qN);(focus ((try intro hg);first|exact as_bool (S_lss rfl rfl) (decide_eq_true (by omega:(k:Int)<((l.map entV).length:Int)))|exact S_ixM rfl rfl (by omega) hx|exact as_bool (S_neqA rfl rfl rfl rfl (eqL_ent e)) he|exact qM));constructor)|refine qP ?_)
  exact loop_again (k+1) hlt (by omega) (Wk_g some rfl rfl kq)
 ·repeat' (first|refine qU ?_|((first|apply dX rfl|apply Da rfl rfl|apply Db rfl rfl qN);(focus ((try intro hg);first|exact as_bool (S_lss rfl rfl) (decide_eq_false (by omega:¬(k:Int)<((l.map entV).length:Int)))|exact qM));constructor)|refine qP ?_)
  exact ret1 rfl (.inl rfl) rfl
end Go.Proofs.YtcdhlofhhcgohaaGreat
namespace Go.Proofs.YtcdhlofhhcgohaaGreat
open Go.RowKit
attribute [local irreducible] SStep DW DWin DOps thenQ inBlk loopQ retQ retQG FnF FnG Wk IntKind.wrap IntKind.andI IntKind.orI IntKind.xorI IntKind.andNotI IntKind.shlI IntKind.shrI Ent.cmp bsG wrongB learnL lookS lookE
theorem book_Look2 {l:List Ent} (h:rightB l) (v a:Int):FnF Tryz.prog 119 [.slice (l.map entV),.int .i64 v,.int .u64 a] (.tuple [.int .i64 (lookS l v a).1,.bool (lookS l v a).2]):=by
 rw[←look_eq h.s]
 exact book_Look l v a (by have:=h.n;omega)
end Go.Proofs.YtcdhlofhhcgohaaGreat
namespace Go.Proofs.YtcdhlofhhcgohaaGreat
open Go.RowKit
attribute [local irreducible] SStep DW DWin DOps thenQ inBlk loopQ retQ retQG FnF FnG Wk IntKind.wrap IntKind.andI IntKind.orI IntKind.xorI IntKind.andNotI IntKind.shlI IntKind.shrI Ent.cmp bsG lookS
theorem ref8_ahead (x y:Ent):FnF Tryz.prog 75 [.agg (entV x),.agg (entV y)] (.bool (decide (x.lt y.vid y.addr))):=by
 refine fnF_of Tryz.func75 rfl rfl rfl ?_
 simp only[envOf]
 repeat' (first|refine qU ?_|((first|apply dX rfl|apply Da rfl rfl|apply Db rfl rfl qN);(focus ((try intro hg);first|exact qM));constructor)|refine qP ?_)
 refine ret1 rfl (.inl rfl) ?_
 refine congrArg V.bool ?_
 rw[Bool.eq_iff_iff,decide_eq_true_iff]
 simp only[Bool.or_eq_true,Bool.and_eq_true,decide_eq_true_eq]
 exact Iff.rfl
set_option maxHeartbeats 2000000 in
theorem ref8_Wrong (l:List Ent):FnF Tryz.prog 29 [.slice (l.map entV)] (faultV (wrongB l)):=by
 refine fnF_of Tryz.func29 rfl rfl rfl ?_
 simp only[envOf]
 have hml:(l.map entV).length=l.length:=by simp
 unfold wrongB
 by_cases h30:30<l.length
 ·rw[if_pos h30]
  repeat' (first|refine qU ?_|((first|apply dX rfl|apply Da rfl rfl|apply Db rfl rfl qN);(focus ((try intro hg);first|exact as_bool (S_gtr rfl rfl) (decide_eq_true (by omega:(30:Int)<((l.map entV).length:Int)))|exact qM));constructor)|refine qP ?_)
  refine retN (.cellA inferInstance rfl rfl rfl rfl qF .nil) ?_
  rfl
 rw[if_neg h30]
 repeat' (first|refine qU ?_|((first|apply dX rfl|apply Da rfl rfl|apply Db rfl rfl qN);(focus ((try intro hg);first|exact as_bool (S_gtr rfl rfl) (decide_eq_false (by omega:¬(30:Int)<((l.map entV).length:Int)))|exact qM));constructor)|refine qP ?_)
 refine DW_loop (fun k:Nat=>⟨[(0,.dat false (.slice (l.map entV))),(2,.ptr 2 0),(9,.dat false (.slice (l.map entV))),(10,.dat true (.int .i64 (l.map entV).length)),(11,.dat true (.int .i64 k))],[(2,.cells false true [.dat true (.int .i64 0),.dat true (.int .i64 0)])],67⟩)
  (fun k=>k≤l.length∧bookW none 0 l=bookW (lastE l k) k (l.drop k)) (fun k=>l.length-k) 0 ⟨Nat.zero_le _,rfl⟩
  (Wk_g some rfl rfl kq) (fun k hR=>?_)
 obtain⟨hk,hw⟩:=hR
 by_cases hlt:k<l.length
 ·have hx:l[(k:Int).toNat]? = some l[k]:=by simp[hlt]
  have hn:l.drop k=l[k]::l.drop (k+1):=List.drop_eq_getElem_cons hlt
  have hlast:lastE l (k+1)=some l[k]:=by simp[lastE,hlt]
  generalize l[k]=t at hx hn hlast
  rw[hn,bookW]at hw
  rcases k with - | j
  ·have h00:lastE l 0=none:=rfl
   rw[h00]at hw
   repeat' (first|refine qU ?_|refine DW_cond rfl (fun hb=>?_) (fun hb=>?_)|((first|apply dX rfl|apply Da rfl rfl|apply Db rfl rfl qN);(focus ((try intro hg);first|exact as_bool (S_lss rfl rfl) (decide_eq_true (by omega:((0:Nat):Int)<((l.map entV).length:Int)))|exact S_ixM rfl rfl (by omega) hx|exact as_bool (b:=false) (S_gtr rfl rfl) rfl|exact qM));constructor)|refine qP ?_)
   ·simp only[Bool.or_eq_true,decide_eq_true_eq]at hb
    rw[hw,if_pos (by unfold Ent.bad;omega)]
    refine retN (.cellA inferInstance rfl rfl rfl rfl qF .nil) ?_
    rfl
   ·simp only[Bool.or_eq_false_iff,decide_eq_false_iff_not]at hb
    refine loop_again (0+1) ⟨hlt,?_⟩ (by omega) (Wk_g some rfl rfl kq)
    rw[hw,if_neg (by unfold Ent.bad;omega),if_neg (by simp),hlast]
  ·have hj:j<l.length:=by omega
   have hx2:l[(((j+1:Nat):Int)-1).toNat]? = some l[j]:=by
    rw[show(((j+1:Nat):Int)-1).toNat=j by omega];exact List.getElem?_eq_getElem hj
   have h00:lastE l (j+1)=some l[j]:=by simp[lastE,hj]
   generalize l[j]=q at hx2 h00
   rw[h00]at hw
   have ho:=ref8_ahead q t
   repeat' (first|refine qU ?_|refine DW_cond rfl (fun hb=>?_) (fun hb=>?_)|((first|apply dX rfl|apply Da rfl rfl|apply Db rfl rfl qN);(focus ((try intro hg);first|exact as_bool (S_lss rfl rfl) (decide_eq_true (by omega:((j+1:Nat):Int)<((l.map entV).length:Int)))|exact S_ixM rfl rfl (by omega) hx|exact S_ixM rfl rfl (by omega) hx2|exact S_call ho rfl|exact as_bool (S_gtr rfl rfl) (decide_eq_true (by omega:(0:Int)<((j+1:Nat):Int)))|exact qM));constructor)|refine qP ?_)
   ·simp only[Bool.or_eq_true,decide_eq_true_eq]at hb
    rw[hw,if_pos (by unfold Ent.bad;omega)]
    refine retN (.cellA inferInstance rfl rfl rfl rfl qF .nil) ?_
    rfl
   ·rename_i hb1
    simp only[Bool.or_eq_false_iff,Bool.not_eq_true',decide_eq_false_iff_not]at hb hb1
    rw[hw,if_neg (by unfold Ent.bad;omega),if_pos (by simpa using hb)]
    refine retN (.cellA inferInstance rfl rfl rfl rfl qF .nil) ?_
    rfl
   ·rename_i hb1
    simp only[Bool.or_eq_false_iff,Bool.not_eq_false',decide_eq_true_eq,decide_eq_false_iff_not]at hb hb1
    refine loop_again (j+1+1) ⟨by omega,?_⟩ (by omega) (Wk_g some rfl rfl kq)
    rw[hw,if_neg (by unfold Ent.bad;omega),if_neg (by simpa using hb),hlast]
 ·repeat' (first|refine qU ?_|((first|apply dX rfl|apply Da rfl rfl|apply Db rfl rfl qN);(focus ((try intro hg);first|exact as_bool (S_lss rfl rfl) (decide_eq_false (by omega:¬(k:Int)<((l.map entV).length:Int)))|exact qM));constructor)|refine qP ?_)
  rw[hw,List.drop_eq_nil_of_le (by omega)]
  refine retN (.cellA inferInstance rfl rfl rfl rfl qF .nil) ?_
  rfl
end Go.Proofs.YtcdhlofhhcgohaaGreat
namespace Go.Proofs.YtcdhlofhhcgohaaGreat
open Go.RowKit
def idxP {α:Type} (p:α→Bool):List α→Nat→Int
 | [],_ => -1
 | x::r,k=>if p x then k else idxP p r (k+1)
attribute [local irreducible] SStep DW DWin DOps thenQ inBlk loopQ retQ retQG FnF FnG Wk IntKind.wrap IntKind.andI IntKind.orI IntKind.xorI IntKind.andNotI IntKind.shlI IntKind.shrI
end Go.Proofs.YtcdhlofhhcgohaaGreat
namespace Go.Proofs.YtcdhlofhhcgohaaGreat
open Go.RowKit
attribute [local irreducible] SStep DW DOps thenQ inBlk loopQ retQ retQG FnF FnG Wk IntKind.wrap IntKind.andI IntKind.orI IntKind.xorI IntKind.andNotI IntKind.shlI IntKind.shrI beBytes byteAt beNum
structure Frame where
 dst:Int
 src:Int
 tagged:Bool
 prio:Int
 drop:Bool
 vid:Int
 typ:Int
 data:List UInt8
def Frame.cells (f:Frame):List V := [.int .u64 f.dst,.int .u64 f.src,.bool f.tagged,.int .i64 f.prio,.bool f.drop,.int .i64 f.vid,.int .i64 f.typ,.slice (f.data.map byteV)]
def Frame.v (f:Frame):V := .agg f.cells
def Frame.zero : Frame:=⟨0,0,false,0,false,0,0,[]⟩
structure Frame.ok (f:Frame):Prop where
 d0:0≤f.dst
 d1:f.dst≤18446744073709551615
 s0:0≤f.src
 s1:f.src≤18446744073709551615
 p0 : -9223372036854775808≤f.prio
 p1:f.prio≤9223372036854775807
 v0 : -9223372036854775808≤f.vid
 v1:f.vid≤9223372036854775807
 t0 : -9223372036854775808≤f.typ
 t1:f.typ≤9223372036854775807
 l:f.data.length≤9223372036854775807
def Frame.wrong (f:Frame):Int :=
 if 281474976710655<f.dst∨281474976710655<f.src then 3 else
 if f.src / 1099511627776 % 2=1 then 8 else
 if f.tagged=true∧(f.vid<0∨4094<f.vid∨f.prio<0∨7<f.prio)then 3 else
 if f.typ<1536∨65535<f.typ∨f.typ=33024 then 1 else
 if 1500<f.data.length then 4 else 0
theorem and_one {a:Int} (h:0≤a) (h2:a≤18446744073709551615):IntKind.u64.andI a 1=a % 2:=by
 unfold IntKind.andI
 have hb:IntKind.u64.bits=64:=rfl
 have e1:(BitVec.ofInt 64 a &&& BitVec.ofInt 64 1).toNat=a.toNat % 2:=by
  rw[BitVec.toNat_and,ofInt_toNat64 h (by omega),ofInt_toNat64 (by omega) (by omega)]
  exact Nat.and_one_is_mod _
 rw[hb,e1,wrap_u64]
 omega
theorem shr_40 {a:Int}:IntKind.u64.shrI a 40=a / 1099511627776:=by
 unfold IntKind.shrI
 have e:(2:Int) ^ (min (40:Int).toNat IntKind.u64.bits)=1099511627776:=by decide
 rw[e,Int.fdiv_eq_ediv_of_nonneg _ (by decide)]
theorem frame_Wrong (f:Frame) (hf:f.ok):FnF Tryz.prog 62 [f.v] (.int .i64 f.wrong):=by
 refine fnF_of Tryz.func62 rfl rfl rfl ?_
 simp only[envOf]
 have hs:=hf.s0
 have hs1:=hf.s1
 have ha:IntKind.u64.andI (f.src / 1099511627776) 1=f.src / 1099511627776 % 2:=and_one (by omega) (by omega)
 repeat' (first|refine qU ?_|refine DW_cond rfl (fun hb=>?_) (fun hb=>?_)|((first|apply dX rfl|apply Da rfl rfl|apply Db rfl rfl qN);(focus ((try intro hg);first|exact as_int (S_shr rfl rfl (by decide)) shr_40|exact as_int (S_and rfl rfl) ha|exact qM));constructor)|refine qP ?_)
 all_goals refine ret1 rfl (.inl rfl) ?_
 all_goals (unfold Frame.wrong;cases ht:f.tagged<;>simp_all<;>(try intros;(repeat' split)<;>first|rfl|omega))
theorem ref2_Wrong (f:Frame) (hf:f.ok):FnF Tryz.prog 41 [f.v] (.int .i64 f.wrong):=by
 refine fnF_of Tryz.func41 rfl rfl rfl ?_
 simp only[envOf]
 have hs:=hf.s0
 have hs1:=hf.s1
 have hq:IntKind.u64.wrap (f.src.tdiv 1099511627776)=f.src / 1099511627776:=by
  rw[Int.tdiv_eq_ediv_of_nonneg hs,wrap_in];simp only[InK];omega
 have hr:(f.src / 1099511627776).tmod 2=f.src / 1099511627776 % 2:=Int.tmod_eq_emod_of_nonneg (by omega)
 repeat' (first|refine qU ?_|refine DW_cond rfl (fun hb=>?_) (fun hb=>?_)|((first|apply dX rfl|apply Da rfl rfl|apply Db rfl rfl qN);(focus ((try intro hg);first|exact as_int (S_quo rfl rfl (by decide)) hq|exact as_int (S_rem rfl rfl (by decide)) hr|exact qM));constructor)|refine qP ?_)
 all_goals refine ret1 rfl (.inl rfl) ?_
 all_goals (unfold Frame.wrong;cases ht:f.tagged<;>simp_all<;>(try intros;(repeat' split)<;>first|rfl|omega))
def Frame.same (a b:Frame):Bool :=
 decide (a.dst=b.dst) && decide (a.src=b.src) && (a.tagged == b.tagged) && (!a.tagged || (decide (a.prio=b.prio) && (a.drop == b.drop) && decide (a.vid=b.vid))) && decide (a.typ=b.typ) && decide (a.data=b.data)
theorem ref2_Same (a b:Frame) (_ha:a.ok) (_hb:b.ok):FnF Tryz.prog 28 [a.v,b.v] (.bool (a.same b)):=by
 refine fnF_of Tryz.func28 rfl rfl rfl ?_
 simp only[envOf]
 repeat' (first|refine qU ?_|((first|apply dX rfl|apply Da rfl rfl|apply Db rfl rfl qN);(focus ((try intro hg);first|exact S_bytes_str (l:=a.data) Tryz.underlying5 Tryz.underlying9 rfl|exact S_bytes_str (l:=b.data) Tryz.underlying5 Tryz.underlying9 rfl|exact qM));constructor)|refine qP ?_)
 exact ret1 rfl (.inl rfl) rfl
end Go.Proofs.YtcdhlofhhcgohaaGreat
namespace Go.Proofs.YtcdhlofhhcgohaaGreat
open Go.RowKit
structure Gate where
 port:Int
 ways:List Int
 plain:Int
 opens:List Bool
def gateV (g:Gate):List V := [.int .i64 g.port,.slice (g.ways.map intV1),.int .i64 g.plain,.slice (g.opens.map boolV1)]
instance : CellsI gateV 4:=⟨fun _=>rfl,fun t d h=>by
 simp only[gateV,List.mem_cons,List.mem_nil_iff,or_false]at h
 rcases h with rfl|rfl|rfl|rfl<;>rfl⟩
def waysG (last:Int):List Int→Int
 | []=>0
 | v::r=>if v<1∨4094<v then 3 else if v≤last then 2 else waysG v r
def Gate.bad (g:Gate):Prop:=g.port<0∨30<g.port∨g.plain<0∨4094<g.plain
instance gateBadDec (g:Gate):Decidable g.bad:=by unfold Gate.bad;infer_instance
def Gate.wrong1 (g:Gate):Int:=if g.bad then 3 else if 16<g.opens.length then 5 else waysG 0 g.ways
def gatesW (last:Option Int) (i:Nat):List Gate→Int×Nat
 | []=>(0,0)
 | g::r=>if g.wrong1≠0 then(g.wrong1,i)else if last.any (fun p=>decide (g.port≤p))then(2,i)else gatesW (some g.port) (i+1) r
def wrongG (l:List Gate):Int×Nat:=gatesW none 0 l
def lastG (l:List Gate):Nat→Option Int
 | 0=>none
 | k+1=>(l[k]?).map (·.port)
def lastI (ws:List Int):Nat→Int
 | 0=>0
 | k+1=>(ws[k]?).getD 0
structure Gate.right (g:Gate):Prop where
 b:¬g.bad
 o:g.opens.length≤16
 w:∀ v∈g.ways,1≤v∧v≤4094
 s:g.ways.Pairwise (· < ·)
 n:g.ways.length≤4094
structure rightG (l:List Gate):Prop where
 g:∀ g∈l,g.right
 s:l.Pairwise (fun a b=>a.port<b.port)
 n:l.length≤31
theorem waysG_zero : ∀ (ws:List Int) (last:Int),0≤last→last≤4094→waysG last ws=0→(∀ v∈ws,1≤v∧v≤4094∧last<v)∧ws.Pairwise (· < ·)∧(ws.length:Int)≤4094-last
 | [],last,_,_,_=>by simp;omega
 | w::r,last,h1,h2,h=>by
  rw[waysG]at h
  split at h
  ·cases h
  ·rename_i hb
   split at h
   ·cases h
   ·rename_i hl
    obtain⟨k1,k2,k3⟩:=waysG_zero r w (by omega) (by omega) h
    refine⟨fun u hu=>?_,List.pairwise_cons.2 ⟨fun u hu=>(k1 u hu).2.2,k2⟩,by simp;omega⟩
    rcases List.mem_cons.1 hu with rfl|hu
    ·omega
    ·have:=k1 u hu;omega
theorem wrong1_zero {g:Gate} (h:g.wrong1=0):g.right:=by
 unfold Gate.wrong1 at h
 split at h
 ·cases h
 ·rename_i hb
  split at h
  ·cases h
  ·rename_i ho
   obtain⟨k1,k2,k3⟩:=waysG_zero g.ways 0 (by omega) (by omega) h
   exact⟨hb,by omega,fun v hv=>⟨(k1 v hv).1,(k1 v hv).2.1⟩,k2,by omega⟩
theorem gatesW_zero : ∀ (l:List Gate) (last:Option Int) (i:Nat) (m:Int), -1≤m→m≤30→(∀ p,last=some p→p=m)→(gatesW last i l).1=0→(∀ g∈l,g.right∧∀ p,last=some p→p<g.port)∧l.Pairwise (fun a b=>a.port<b.port)∧((last=none→m = -1)→(l.length:Int)≤30-m)
 | [],_,_,m,h1,h2,h3,_=>by simp;omega
 | g :: r,last,i,m,h1,h2,h3,h=>by
  rw[gatesW]at h
  split at h
  ·rename_i hn;exact absurd h hn
  ·rename_i hz
   split at h
   ·cases h
   ·rename_i hl
    have hr:=wrong1_zero (Decidable.not_not.1 hz)
    have hb:=hr.b
    unfold Gate.bad at hb
    obtain⟨k1,k2,k3⟩:=gatesW_zero r (some g.port) (i+1) g.port (by omega) (by omega) (fun p hp=>by injection hp with hp;exact hp.symm) h
    have hp:∀ p,last=some p→p<g.port:=fun p hp=>by subst hp;simpa using hl
    refine⟨fun u hu=>?_,List.pairwise_cons.2 ⟨fun u hu=>(k1 u hu).2 _ rfl,k2⟩,fun hm=>?_⟩
    ·rcases List.mem_cons.1 hu with rfl|hu
     ·exact⟨hr,hp⟩
     ·exact⟨(k1 u hu).1,fun p h=>Int.lt_trans (hp p h) ((k1 u hu).2 _ rfl)⟩
    ·have h4:=k3 (fun h=>by cases h)
     have:m<g.port:=by
      cases last with
      | none=>rw[hm rfl];omega
      | some p=>rw[←h3 p rfl];exact hp p rfl
     simp only[List.length_cons];omega
theorem rightG_of {l:List Gate} (h:(wrongG l).1=0):rightG l:=by
 obtain⟨k1,k2,k3⟩:=gatesW_zero l none 0 (-1) (by omega) (by omega) (fun p hp=>by cases hp) h
 exact⟨fun g hg=>(k1 g hg).1,k2,by have:=k3 (fun _=>rfl);omega⟩
theorem treeOf_in {ws:List Way} (h:∀ w∈ws,¬w.bad) (v:Int):0≤treeOf ws v∧treeOf ws v≤15:=by
 induction ws with
 | nil=>simp[treeOf]
 | cons w r ih =>
  rw[treeOf]
  split
  ·have:=h w (List.mem_cons.2 (.inl rfl));unfold Way.bad at this;omega
  ·exact ih (fun u hu=>h u (List.mem_cons.2 (.inr hu)))
def Gate.passes (g:Gate) (r:Region) (v:Int):Bool:=decide (v∈g.ways) && (g.opens[(treeOf r.ways v).toNat]?).getD false
def wayOf (g:Gate) (f:Frame):Int:=if f.tagged=true∧f.vid≠0 then f.vid else g.plain
def leaveF (g:Gate) (f:Frame) (v:Int):Frame :=
 if g.plain=v then { f with tagged:=false,prio:=0,drop:=false,vid:=0 }
 else { f with tagged:=true,prio:=if f.tagged then f.prio else 0,drop:=f.tagged && f.drop,vid:=v }
def reservedB (a:Int):Bool:=decide (IntKind.u64.shrI a 4=103282638848)
abbrev OutF := Int×Frame
def outV (p:OutF):List V := .int .i64 p.1::p.2.cells
instance : CellsI outV 9:=⟨fun _=>rfl,fun t d h=>by
 simp only[outV,Frame.cells,List.mem_cons,List.mem_nil_iff,or_false]at h
 rcases h with rfl|rfl|rfl|rfl|rfl|rfl|rfl|rfl|rfl<;>rfl⟩
def skipG (r:Region) (v port at':Int) (known:Bool) (g:Gate):Bool:=decide (g.port=port) || (known && decide (g.port≠at')) || !g.passes r v
def outsG (r:Region) (gs:List Gate) (v port at':Int) (known:Bool) (f:Frame):List OutF:=(gs.filter (fun g => !skipG r v port at' known g)).map (fun g=>(g.port,leaveF g f v))
def blockB (g:Gate) (r:Region) (f:Frame):Bool:=decide (wayOf g f=0) || !g.passes r (wayOf g f) || reservedB f.dst
def relayG (r:Region) (gs:List Gate) (l:List Ent) (port:Int) (f:Frame) (g:Gate):List OutF×List Ent×Int :=
 if blockB g r f then([],l,0)else
  (outsG r gs (wayOf g f) port (lookS (learnL l (wayOf g f) f.src port) (wayOf g f) f.dst).1 (lookS (learnL l (wayOf g f) f.src port) (wayOf g f) f.dst).2 f,learnL l (wayOf g f) f.src port,0)
def gateAt (gs:List Gate) (port:Int):Option Gate:=gs.find? (fun g=>decide (g.port=port))
def relayT (r:Region) (gs:List Gate) (l:List Ent) (port:Int) (f:Frame):List OutF×List Ent×Int :=
 match gateAt gs port with
 | none=>([],[],6)
 | some g=>relayG r gs l port f g
theorem relayT_none {r:Region} {gs:List Gate} {l:List Ent} {port:Int} {f:Frame} (h:gateAt gs port=none):relayT r gs l port f=([],[],6):=by unfold relayT;rw[h]
theorem relayT_some {r:Region} {gs:List Gate} {l:List Ent} {port:Int} {f:Frame} {g:Gate} (h:gateAt gs port=some g):relayT r gs l port f=relayG r gs l port f g:=by unfold relayT;rw[h]
def relayS (r:Region) (gs:List Gate) (l:List Ent) (port:Int) (f:Frame):List OutF×List Ent×Int :=
 if r.wrong≠0 then([],[],r.wrong)else if(wrongG gs).1≠0 then([],[],(wrongG gs).1)else if(wrongB l).1≠0 then([],[],(wrongB l).1)else if f.wrong≠0 then([],[],f.wrong)
 else relayT r gs l port f
structure AllRight (r:Region) (gs:List Gate) (l:List Ent) (f:Frame):Prop where
 r:r.wrong=0
 g:(wrongG gs).1=0
 b:(wrongB l).1=0
 f:f.wrong=0
theorem relayS_right {r:Region} {gs:List Gate} {l:List Ent} {port:Int} {f:Frame} (h:AllRight r gs l f):relayS r gs l port f=relayT r gs l port f:=by
 unfold relayS;rw[if_neg (fun k=>k h.r),if_neg (fun k=>k h.g),if_neg (fun k=>k h.b),if_neg (fun k=>k h.f)]
theorem idxP_find {α:Type} {p:α→Bool}:∀ {l:List α} {k:Nat},(idxP p l k = -1∧l.find? p=none)∨∃ n x,idxP p l k=((k+n:Nat):Int)∧l[n]? = some x∧l.find? p=some x
 | [],_=>.inl ⟨rfl,rfl⟩
 | x::r,k=>by
  rw[idxP]
  by_cases hx:p x=true
  ·rw[if_pos hx]
   exact .inr ⟨0,x,by rfl,rfl,by rw[List.find?_cons_of_pos hx]⟩
  ·rw[if_neg hx]
   rcases idxP_find (p:=p) (l:=r) (k:=k+1)with⟨h1,h2⟩|⟨n,y,h1,h2,h3⟩
   ·exact .inl ⟨h1,by rw[List.find?_cons_of_neg hx,h2]⟩
   ·exact .inr ⟨n+1,y,by rw[h1];congr 1;omega,h2,by rw[List.find?_cons_of_neg hx,h3]⟩
def bsW (ws:List Int) (v:Int):Nat:=bsG (fun x=>x-v) 0 ws ws.length 0 ws.length
theorem bsW_spec {ws:List Int} (hs:ws.Pairwise (· < ·)) (v:Int):(decide (bsW ws v<ws.length) && decide (ws.getD (bsW ws v) 0=v))=decide (v∈ws):=by
 have hsplit:∃ l1 l2,ws=l1++l2∧(∀ x∈l1,x<v)∧∀ x∈l2,¬x<v:=by
  induction ws with
  | nil=>exact⟨[],[],rfl,by simp,by simp⟩
  | cons x r ih =>
   obtain⟨h1,h2⟩:=List.pairwise_cons.1 hs
   by_cases hx:x<v
   ·obtain⟨l1,l2,e,k1,k2⟩:=ih h2
    exact⟨x::l1,l2,by rw[e];rfl,fun y hy=>(List.mem_cons.1 hy).elim (fun h=>h▸hx) (k1 y),k2⟩
   ·refine⟨[],x::r,rfl,by simp,fun y hy=>?_⟩
    rcases List.mem_cons.1 hy with rfl|hy
    ·exact hx
    ·have:=h1 y hy;omega
 obtain⟨l1,l2,rfl,k1,k2⟩:=hsplit
 have hb:bsW (l1++l2) v=l1.length:=by
  refine bsG_spec (fun k hk=>?_) (fun k hk hk2=>?_) (by simp) _ _ _ (by omega) (by omega) (by simp) (by omega)
  ·have:(l1++l2).getD k 0∈l1:=by
    rw[List.getD_eq_getElem?_getD,List.getElem?_append_left hk,List.getElem?_eq_getElem hk];exact List.getElem_mem hk
   have:=k1 _ this;show(l1++l2).getD k 0-v<0;omega
  ·have:(l1++l2).getD k 0∈l2:=by
    rw[List.length_append]at hk2
    rw[List.getD_eq_getElem?_getD,List.getElem?_append_right hk,List.getElem?_eq_getElem (by omega)];exact List.getElem_mem _
   have:=k2 _ this;show ¬(l1++l2).getD k 0-v<0;omega
 rw[hb]
 rw[Bool.eq_iff_iff]
 simp only[Bool.and_eq_true,decide_eq_true_eq,List.length_append]
 constructor
 ·rintro⟨h1,h2⟩
  rw[List.getD_eq_getElem?_getD,List.getElem?_append_right (Nat.le_refl _),Nat.sub_self,List.getElem?_eq_getElem (by omega)]at h2
  rw[←h2]
  exact List.mem_append.2 (.inr (List.getElem_mem _))
 ·intro hm
  rcases List.mem_append.1 hm with h|h
  ·have:=k1 v h;omega
  ·obtain⟨a,r,rfl⟩:∃ a r,l2=a::r:=by cases l2 with|nil=>cases h|cons a r=>exact⟨a,r,rfl⟩
   refine⟨by simp,?_⟩
   rw[List.getD_eq_getElem?_getD,List.getElem?_append_right (Nat.le_refl _),Nat.sub_self]
   simp only[List.getElem?_cons_zero,Option.getD_some]
   rcases List.mem_cons.1 h with rfl|h
   ·rfl
   ·have h1:¬a<v:=k2 a (List.mem_cons.2 (.inl rfl))
    have h2:=(List.pairwise_cons.1 (List.pairwise_append.1 hs).2.1).1 v h
    omega
end Go.Proofs.YtcdhlofhhcgohaaGreat
namespace Go.Proofs.YtcdhlofhhcgohaaGreat
open Go.RowKit
structure Come where
 br:Int
 port:Int
 f:Frame
def comeV (c:Come):List V := .int .i64 c.br :: .int .i64 c.port::c.f.cells
instance : CellsI comeV 10:=⟨fun _=>rfl,fun t d h=>by
 simp only[comeV,Frame.cells,List.mem_cons,List.mem_nil_iff,or_false]at h
 rcases h with rfl|rfl|rfl|rfl|rfl|rfl|rfl|rfl|rfl|rfl<;>rfl⟩
def Come.zero : Come:=⟨0,0,.zero⟩
def bookR (l:List Ent):List V := [.slice (l.map entV)]
instance : CellsI bookR 1:=⟨fun _=>rfl,fun t d h=>by
 simp only[bookR,List.mem_cons,List.mem_nil_iff,or_false]at h
 subst h;rfl⟩
def opensOf (t:List (List Mind)) (b port:Int):List Bool:=(List.range t.length).map fun k:Nat=>decide (port=0) || opensT t k b port
def gateOf (t:List (List Mind)) (b vid p:Int):Gate:=⟨p,[vid],if p=0 then vid else 0,opensOf t b p⟩
def gatesOf (n:Net) (t:List (List Mind)) (b vid:Int):List Gate:=gateOf t b vid 0::(portsOf n.links b).map (gateOf t b vid)
def acrossS : List Link→Int→Int→Option (Int×Int)
 | [],_,_=>none
 | l::r,b,p=>if l.up=true∧l.a=b∧l.pa=p then some (l.b,l.pb)else if l.up=true∧l.b=b∧l.pb=p then some (l.a,l.pa)else acrossS r b p
def comesOf (n:Net) (b:Int) (outs:List OutF):List Come:=outs.filterMap fun o=>if o.1=0 then none else(acrossS n.links b o.1).map fun q=>⟨q.1,q.2,o.2⟩
def seenOf (b:Int) (outs:List OutF):List OutF:=outs.filterMap fun o=>if o.1=0 then some (b,o.2)else none
def regAt (n:Net) (b:Int):Region:=((n.bridges[b.toNat]?).map (·.region)).getD ⟨[],0,[]⟩
def bookAt (bs:List (List Ent)) (b:Int):List Ent:=(bs[b.toNat]?).getD []
def relayC (n:Net) (t:List (List Mind)) (vid:Int) (bs:List (List Ent)) (c:Come):List OutF×List Ent×Int:=relayS (regAt n c.br) (gatesOf n t c.br vid) (bookAt bs c.br) c.port c.f
structure Sent where
 seen:List OutF
 books:List (List Ent)
 ok:Bool
 flt:Int×Nat
def Sent.v (s:Sent):V := .tuple [.slice (s.seen.map outV),.slice (s.books.map bookR),.bool s.ok,faultV s.flt]
def sentBad (e:Int):Sent:=⟨[],[],false,(e,0)⟩
def goS (n:Net) (t:List (List Mind)) (vid:Int):Nat→List Come→List OutF→List (List Ent)→Sent
 | _,[],seen,bs=>⟨seen,bs,true,(0,0)⟩
 | 0,_::_,_,_=>sentBad 0
 | k+1,c::r,seen,bs=>if(relayC n t vid bs c).2.2≠0 then sentBad (relayC n t vid bs c).2.2 else
  goS n t vid k (r++comesOf n c.br (relayC n t vid bs c).1) (seen++seenOf c.br (relayC n t vid bs c).1) (bs.set c.br.toNat (relayC n t vid bs c).2.1)
def sendR (n:Net) (t:List (List Mind)) (bs:List (List Ent)) (frm vid:Int) (f:Frame):Sent :=
 if bs.length≠n.bridges.length then sentBad 8 else
 if frm<0∨(n.bridges.length:Int)≤frm then sentBad 6 else
 if vid<1∨4094<vid then sentBad 3 else
 if f.tagged=true then sentBad 1 else
 if f.wrong≠0 then sentBad f.wrong else
 if n.bridges.any (fun b=>decide ((t.length:Int)≤treeOf b.region.ways vid))then sentBad 5 else
 goS n t vid 41 [⟨frm,0,f⟩] [] bs
structure Come.ok (n:Net) (c:Come):Prop where
 b0:0≤c.br
 b1:c.br<n.bridges.length
 f:c.f.ok
theorem across_ok {nb:Nat}:∀ {ls:List Link} {b p:Int} {q:Int×Int},(∀ l∈ls,l.ok nb)→acrossS ls b p=some q→0≤q.1∧q.1<nb
 | [],_,_,_,_,h=>by cases h
 | l::r,b,p,q,hl,h=>by
  rw[acrossS]at h
  have hk:=hl l (by simp)
  split at h
  ·injection h with h
   subst h;exact⟨hk.b0,hk.b1⟩
  ·split at h
   ·injection h with h
    subst h;exact⟨hk.a0,hk.a1⟩
   ·exact across_ok (fun x hx=>hl x (by simp[hx])) h
theorem comesOf_ok {n:Net} (h:n.good) {b:Int} {outs:List OutF} (ho:∀ o∈outs,o.2.ok):∀ c∈comesOf n b outs,c.ok n:=fun c hc=>by
 unfold comesOf at hc
 obtain⟨o,ho',hc⟩:=List.mem_filterMap.1 hc
 split at hc
 ·cases hc
 ·obtain⟨q,hq,rfl⟩:=Option.map_eq_some_iff.1 hc
  obtain⟨h1,h2⟩:=across_ok h.lk hq
  exact⟨h1,h2,ho o ho'⟩
theorem comesOf_take {n:Net} {b:Int} {outs:List OutF} {j:Nat} {o:OutF} (h:outs[j]? = some o):comesOf n b (outs.take (j+1))=comesOf n b (outs.take j)++if o.1=0 then []else match acrossS n.links b o.1 with|none=>[]|some q=>[⟨q.1,q.2,o.2⟩]:=by
 unfold comesOf
 rw[List.take_add_one,h,List.filterMap_append]
 congr 1
 by_cases h0:o.1=0
 ·simp[h0]
 ·cases hq:acrossS n.links b o.1<;>simp[h0,hq]
theorem seenOf_take {b:Int} {outs:List OutF} {j:Nat} {o:OutF} (h:outs[j]? = some o):seenOf b (outs.take (j+1))=seenOf b (outs.take j)++if o.1=0 then [(b,o.2)]else []:=by
 unfold seenOf
 rw[List.take_add_one,h,List.filterMap_append]
 congr 1
 by_cases h0:o.1=0<;>simp[h0]
theorem comesOf_len (n:Net) (b:Int) (outs:List OutF):(comesOf n b outs).length≤outs.length:=by unfold comesOf;exact List.length_filterMap_le ..
theorem seenOf_len (b:Int) (outs:List OutF):(seenOf b outs).length≤outs.length:=by unfold seenOf;exact List.length_filterMap_le ..
theorem regAt_of {n:Net} {b:Int} {x:Bridge} (h:n.bridges[b.toNat]? = some x):regAt n b=x.region:=by unfold regAt;rw[h];rfl
theorem bookAt_of {bs:List (List Ent)} {b:Int} {l:List Ent} (h:bs[b.toNat]? = some l):bookAt bs b=l:=by unfold bookAt;rw[h];rfl
end Go.Proofs.YtcdhlofhhcgohaaGreat
namespace Go.Proofs.YtcdhlofhhcgohaaGreat
open Go.RowKit
def keptD : List Bool→List V→List D
 | b::r,x::s=>.dat b x::keptD r s
 | _,_=>[]
def keptOK (m:Mem):List Bool→List D→List V→Prop
 | true::r,d::s,x::t=>(∃ n,asV m d=some (n,x))∧keptOK m r s t
 | false::r,_::s,_::t=>keptOK m r s t
 | [],[],[]=>True
 | _,_,_=>False
theorem keptD_len : ∀ {fl:List Bool} {xs:List V},fl.length=xs.length→(keptD fl xs).length=xs.length
 | [],[],_=>rfl
 | b::r,x::s,h=>by
  show(keptD r s).length+1=s.length+1
  rw[keptD_len (by simpa using h)]
 | [],_::_,h=>by simp at h
 | _::_,[],h=>by simp at h
theorem keptD_get : ∀ {fl:List Bool} {xs:List V} {j:Nat} {d:D},(keptD fl xs)[j]? = some d→∃ b x,fl[j]? = some b∧xs[j]? = some x∧d = .dat b x
 | [],[],j,d,h=>by simp[keptD]at h
 | [],_::_,j,d,h=>by simp[keptD]at h
 | _::_,[],j,d,h=>by simp[keptD]at h
 | b::r,x::s,0,d,h=>by
  simp[keptD]at h
  exact⟨b,x,rfl,rfl,h.symm⟩
 | b::r,x::s,j+1,d,h=>by
  simp only[keptD,List.getElem?_cons_succ]at h
  obtain⟨b',x',h1,h2,h3⟩:=keptD_get h
  exact⟨b',x',by rw[List.getElem?_cons_succ];exact h1,by rw[List.getElem?_cons_succ];exact h2,h3⟩
theorem keptOK_len {m:Mem}:∀ {fl:List Bool} {ds:List D} {xs:List V},keptOK m fl ds xs→fl.length=xs.length
 | [],[],[],_=>rfl
 | true::r,d::s,x::t,h=>by simp[keptOK_len h.2]
 | false::r,d::s,x::t,h=>by simp[keptOK_len (m:=m) (show keptOK m r s t from h)]
 | [],_::_,_,h=>h.elim
 | [],[],_::_,h=>h.elim
 | true::_,[],_,h=>by cases h
 | false::_,[],_,h=>by cases h
 | true::_,_::_,[],h=>by cases h
 | false::_,_::_,[],h=>by cases h
theorem keptOK_get {m:Mem}:∀ {fl:List Bool} {ds:List D} {xs:List V},keptOK m fl ds xs→∀ {j:Nat} {d:D} {x:V},fl[j]? = some true→ds[j]? = some d→xs[j]? = some x→∃ n,asV m d=some (n,x)
 | [],[],[],_,j,d,x,h,_,_=>by simp at h
 | true::r,d0::s,x0::t,h,0,d,x,h1,h2,h3=>by
  simp at h2 h3
  subst h2;subst h3
  exact h.1
 | true::r,d0::s,x0::t,h,j+1,d,x,h1,h2,h3=>by
  rw[List.getElem?_cons_succ]at h1 h2 h3
  exact keptOK_get h.2 h1 h2 h3
 | false::r,d0::s,x0::t,h,0,d,x,h1,h2,h3=>by simp at h1
 | false::r,d0::s,x0::t,h,j+1,d,x,h1,h2,h3=>by
  rw[List.getElem?_cons_succ]at h1 h2 h3
  exact keptOK_get (m:=m) (show keptOK m r s t from h) h1 h2 h3
 | [],_::_,_,h,_,_,_,_,_,_=>h.elim
 | [],[],_::_,h,_,_,_,_,_,_=>h.elim
 | true::_,[],_,h,_,_,_,_,_,_=>by cases h
 | false::_,[],_,h,_,_,_,_,_,_=>by cases h
 | true::_,_::_,[],h,_,_,_,_,_,_=>by cases h
 | false::_,_::_,[],h,_,_,_,_,_,_=>by cases h
section
variable {P : Program} {e : Operand → D} {m : Mem} {dst : Option Tmp} {ty : TypeId} {pos : String} {af : Array Edge} {gd : Option (Nat × Bool)}
theorem callK_go {f:FuncId} {fl:List Bool} {ds:List V} {es:List D} {r:V} (hc:FnG P f (keptD fl ds) [] (.dat true r) []) {C:Cf} {m':Mem} {vs:Array Value} (hm:HoldsM C m') (hl:vs.size=es.length) (hv:∀ (j:Nat) d v,es[j]? = some d→vs[j]? = some v→RdD C m' d v)
  (ha:asBL m' es=some ds) (hk:keptOK m' fl es ds):Calls P f vs C.w fun e' w'=>∃ v C',e' = .returned v∧C'.w=w'∧Step C m' C' m'∧RdD C' m' (.dat false r) v:=by
 obtain⟨hlen,hall⟩:=asBL_ok hm es ds ha
 have hfl:=keptOK_len hk
 have gone:∀ g,Mem.at ([]:Mem) g = .gone:=fun _=>rfl
 let C0:Cf:=⟨fun _=>none,C.lent m',C.S,C.w⟩
 have hsd:∀ b,C.lent m' b→b<C.w.heap.size:=by
  rintro b (hb|⟨g,h1,h2⟩)
  ·exact hm.sdom b hb
  ·exact BoxOK.lt hm h1 h2
 have h0:HoldsM C0 []:=⟨fun g=>trivial,fun g g' b (h:Box.gone≠Box.gone)=>absurd rfl h,fun g b (h:false=true)=>by(cases h),hsd,fun b hb=>.inl hb⟩
 have hargs:∀ (j:Nat) d v,(keptD fl ds)[j]? = some d→vs[j]? = some v→RdD C0 [] d v:=fun j d v hd hvj=>by
  obtain⟨b,x,h1,h2,rfl⟩:=keptD_get hd
  have hj:j<es.length:=by have:=(List.getElem?_eq_some_iff.1 h2).1;omega
  have hes:es[j]? = some es[j]:=List.getElem?_eq_getElem hj
  have hr:=hv j _ v hes hvj
  cases b with
  | false=>exact hall j _ x v hes h2 hr
  | true =>
   obtain⟨n,hn⟩:=keptOK_get hk h1 hes h2
   have:=(asV_ok hm (fun _ _=>rfl) hn hr).weak hm
   exact this
 refine(hc.2 C0 vs h0 (by rw[keptD_len hfl];omega) hargs).mono ?_
 rintro e' w' ⟨v,C',rfl,rfl,hx,hh,hr⟩
 have hnm:∀ g,(Mem.at ([]:Mem) g).mut=true→False:=fun g hg=>by rw[gone]at hg;cases hg
 have hg:Grew C.w C'.w:=⟨hx.os,hx.tape,hx.output,hx.size,fun k hk=>hx.keep k hk (fun g hg=>(hnm g hg).elim)⟩
 have hst:=step_dat (newB C.w C'.w) hm hg (fun k hk=>hk)
 refine⟨v,C.put (newB C.w C'.w) C'.w,rfl,rfl,hst,?_⟩
 have hr:Rd C'.N C'.w r v:=hr
 show Rd (fun k=>C.S k∨newB C.w C'.w k) C'.w r v
 refine Rd.mono hr (fun b hb=>?_) (fun _ _=>rfl)
 rcases hx.supN b hb with h1|h1|⟨g0,h1,_⟩
 ·exact .inl h1
 ·exact .inr ⟨h1,hh.sdom b (hh.ns b hb)⟩
 ·exact(hnm g0 h1).elim
theorem S_callK {f:FuncId} {args:Array Operand} {ats:Array TypeId} {ds:List V} {r:V} (fl:List Bool) (hc:FnG P f (keptD fl ds) [] (.dat true r) []) (ha:∀ m':Mem,(∀ g,g∈(args.toList.map e).flatMap (refs m)→m'.at g=m.at g)→asBL m' (args.toList.map e)=some ds∧keptOK m' fl (args.toList.map e) ds) :
  SStep P ⟨dst,.call { callee := .value (.func f),args:=args,argTypes:=ats },ty,pos,af,gd⟩ e m ((args.toList.map e).flatMap (refs m)) (.dat false r) []:=by
 intro C m' a next Q hag hm hx hn
 obtain⟨ha1,ha2⟩:=ha m' (fun g hg=>hag g (.inl hg))
 have hrun:(execOp a.eval ⟨dst,.call { callee := .value (.func f),args:=args,argTypes:=ats },ty,pos,af,gd⟩).run P C.w = .ok (.enter f (args.map a.eval)) C.w:=by
  have hev:a.eval (.func f) = .func (.func f) #[] #[]:=rfl
  simp only[execOp,resolve,hev,Deferred.ofValue,Sem.run_bind,Sem.run_pure,Result.andThen_ok,invoke,run_callFunc hc.1]
  simp
 unfold Oper.wp
 rw[hrun]
 show Calls P f (args.map a.eval) C.w _
 refine(callK_go hc hm (by simp) (fun j d v hd hv=>?_) ha1 ha2).mono ?_
 ·simp only[List.getElem?_map,Option.map_eq_some_iff]at hd
  obtain⟨y,hy,rfl⟩:=hd
  simp only[Array.getElem?_map,Option.map_eq_some_iff]at hv
  obtain⟨y',hy',rfl⟩:=hv
  have:y=y':=by
   rw[Array.getElem?_toList]at hy
   rw[hy]at hy'
   injection hy'
  subst this
  exact hx y (by simp only[Op.operands,Call.operands];exact Array.mem_append.2 (.inr (Array.mem_of_getElem? hy')))
 ·rintro e' w' ⟨v,C',rfl,rfl,h1,h2⟩
  exact hn v C' h1 h2
end
end Go.Proofs.YtcdhlofhhcgohaaGreat
