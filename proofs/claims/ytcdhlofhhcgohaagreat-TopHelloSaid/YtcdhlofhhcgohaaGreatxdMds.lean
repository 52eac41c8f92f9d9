/- MD5: Sum. -/
import Derived.Test.YtcdhlofhhcgohaaGreatxcMd5
import Derived.Test.YtcdhlofhhcgohaaGreatxbFz
namespace Go.Proofs.YtcdhlofhhcgohaaGreat
open Go.RowKit
theorem wrap_u32 (a:Int):IntKind.u32.wrap a=a % 4294967296:=by
 simp[IntKind.wrap,IntKind.bits,IntKind.signed]
theorem shl_u32 (a:Int) (k:Nat) (hk:k≤32) (h0:0≤a) (h1:a*2 ^ k<4294967296):IntKind.u32.shlI a (k:Int)=a*2 ^ k:=by
 unfold IntKind.shlI
 have hb:IntKind.u32.bits=32:=rfl
 rw[hb,Int.toNat_natCast,Nat.min_eq_left hk,wrap_u32]
 have:0≤a*2 ^ k:=Int.mul_nonneg h0 (Int.pow_nonneg (by decide))
 omega
theorem or_u32 (a b:Int) (k:Nat) (h0:0≤a) (h1:a<2 ^ k) (hb0:0≤b) (h:a+b*2 ^ k<4294967296):IntKind.u32.orI a (b*2 ^ k)=a+b*2 ^ k:=by
 have hp:(0:Int)<2 ^ k:=Int.pow_pos (by decide)
 have hb2:0≤b*2 ^ k:=Int.mul_nonneg hb0 (Int.le_of_lt hp)
 obtain⟨x,rfl⟩:=Int.eq_ofNat_of_zero_le h0
 obtain⟨y,rfl⟩:=Int.eq_ofNat_of_zero_le hb0
 have e:((y:Int)*2 ^ k)=((y*2 ^ k:Nat):Int):=by simp
 rw[e]at h hb2 ⊢
 have h1':x<2 ^ k:=by
  have:((2:Int) ^ k)=((2 ^ k:Nat):Int):=by simp
  rw[this]at h1
  exact Int.ofNat_lt.1 h1
 unfold IntKind.orI
 have hb:IntKind.u32.bits=32:=rfl
 have e1:(BitVec.ofInt 32 (x:Int) ||| BitVec.ofInt 32 ((y*2 ^ k:Nat):Int)).toNat=x ||| (y*2 ^ k):=by
  rw[BitVec.toNat_or]
  congr 1
  ·simp[];omega
  ·rw[BitVec.toNat_ofInt];omega
 rw[hb,e1,Nat.or_comm,←Nat.shiftLeft_eq,←Nat.shiftLeft_add_eq_or_of_lt h1',Nat.shiftLeft_eq,wrap_u32]
 omega
theorem word_or {c0 c1 c2 c3:UInt8}:IntKind.u32.shlI (c1.toNat:Int) 8=c1.toNat*256∧IntKind.u32.shlI (c2.toNat:Int) 16=c2.toNat*65536∧IntKind.u32.shlI (c3.toNat:Int) 24=c3.toNat*16777216 ∧
  IntKind.u32.orI (c0.toNat:Int) (c1.toNat*256)=c0.toNat+c1.toNat*256∧IntKind.u32.orI (c0.toNat+c1.toNat*256:Int) (c2.toNat*65536)=c0.toNat+c1.toNat*256+c2.toNat*65536 ∧
  IntKind.u32.orI (c0.toNat+c1.toNat*256+c2.toNat*65536:Int) (c3.toNat*16777216)=c0.toNat+c1.toNat*256+c2.toNat*65536+c3.toNat*16777216:=by
 have h0:=c0.toNat_lt
 have h1:=c1.toNat_lt
 have h2:=c2.toNat_lt
 have h3:=c3.toNat_lt
 have p8:(2:Int) ^ 8=256:=by decide
 have p16:(2:Int) ^ 16=65536:=by decide
 have p24:(2:Int) ^ 24=16777216:=by decide
 have a1:=shl_u32 c1.toNat 8 (by decide) (by omega) (by rw[p8];omega)
 have a2:=shl_u32 c2.toNat 16 (by decide) (by omega) (by rw[p16];omega)
 have a3:=shl_u32 c3.toNat 24 (by decide) (by omega) (by rw[p24];omega)
 have b1:=or_u32 c0.toNat c1.toNat 8 (by omega) (by rw[p8];omega) (by omega) (by rw[p8];omega)
 have b2:=or_u32 (c0.toNat+c1.toNat*256) c2.toNat 16 (by omega) (by rw[p16];omega) (by omega) (by rw[p16];omega)
 have b3:=or_u32 (c0.toNat+c1.toNat*256+c2.toNat*65536) c3.toNat 24 (by omega) (by rw[p24];omega) (by omega) (by rw[p24];omega)
 rw[p8]at a1 b1
 rw[p16]at a2 b2
 rw[p24]at a3 b3
 exact⟨a1,a2,a3,b1,b2,b3⟩
theorem getD_some {l:List UInt8} {k:Nat} {c:UInt8} (h:l[k]? = some c):byteN l k=c.toNat:=by
 unfold byteN
 rw[List.getD_eq_getElem?_getD,h];rfl
theorem md5R_ok : ∀ j,j<16→0≤md5R.getD j 0∧md5R.getD j 0<32:=by decide
theorem some_at {α:Type} {b:List α} {k:Nat} (h:k<b.length):∃ x,b[k]? = some x:=⟨_,List.getElem?_eq_getElem h⟩
theorem getD_map {f:Int→D} {l:List Int} {k:Nat} (h:k<l.length):(l.map f)[k]? = some (f (l.getD k 0)):=by
 rw[List.getElem?_map,List.getElem?_eq_getElem h,List.getD_eq_getElem?_getD,List.getElem?_eq_getElem h];rfl
def st4D (v:St4):List D := [u32D v.1,u32D v.2.1,u32D v.2.2.1,u32D v.2.2.2]
def st4V (v:St4):V := .agg [u32C v.1,u32C v.2.1,u32C v.2.2.1,u32C v.2.2.2]
attribute [local irreducible] SStep DW DWin DOps thenQ inBlk loopQ retQ retQG FnF FnG Wk IntKind.wrap IntKind.andI IntKind.orI IntKind.xorI IntKind.andNotI IntKind.shlI IntKind.shrI rot wordAt
set_option maxRecDepth 10000 in
set_option maxHeartbeats 4000000 in
theorem md5_block (v:St4) (l:List UInt8) (hl:l.length=64):FnF Tryz.prog 150 [st4V v,.slice (l.map byteV)] (st4V (md5Block l 0 v)):=by
 refine fnF_of Tryz.func150 rfl rfl rfl ?_
 simp only[envOf]
 repeat' (first|refine qU ?_|((first|apply dX rfl|apply Da rfl rfl|apply Db rfl rfl qN);(focus ((try intro hg);first|exact qM));constructor)|refine qP ?_)
 refine DW_loop (fun p:Nat×List Int=>⟨[(1,.dat false (.slice (l.map byteV))),(2,.ptr 2 0),(4,.ptr 4 0),(5,.ptr 5 0),(18,.dat true (.int .i64 p.1))],
   [(2,.cells false true (st4D v)),(4,.cells false true (st4D (0,0,0,0))),(5,.cells false true (p.2.map u32D))],162⟩)
  (fun p=>p.1≤16∧p.2.length=16∧∀ j,j<p.1→p.2[j]? = some (wordAt l (4*j))) (fun p=>16-p.1) (0,List.replicate 16 0) ⟨by decide,rfl,fun j h=>by cases h⟩
  (Wk_g some rfl rfl kq) (fun p hR=>?_)
 obtain⟨k,ms⟩:=p
 obtain⟨hk,hml,hms⟩:=hR
 simp only at hk hml hms
 dsimp only
 by_cases hlt:k<16
 ·obtain⟨c0,h0⟩:=some_at (b:=l) (k:=4*k) (by omega)
  obtain⟨c1,h1⟩:=some_at (b:=l) (k:=4*k+1) (by omega)
  obtain⟨c2,h2⟩:=some_at (b:=l) (k:=4*k+2) (by omega)
  obtain⟨c3,h3⟩:=some_at (b:=l) (k:=4*k+3) (by omega)
  have i0:l[(4*(k:Int)).toNat]? = some c0:=by rw[←h0];congr 1
  have i1:l[(4*(k:Int)+1).toNat]? = some c1:=by rw[←h1];congr 1
  have i2:l[(4*(k:Int)+2).toNat]? = some c2:=by rw[←h2];congr 1
  have i3:l[(4*(k:Int)+3).toNat]? = some c3:=by rw[←h3];congr 1
  have g0:=c0.toNat_lt
  have g1:=c1.toNat_lt
  have g2:=c2.toNat_lt
  have g3:=c3.toNat_lt
  obtain⟨s1,s2,s3,o1,o2,o3⟩ := @word_or c0 c1 c2 c3
  have hidx:0+(k:Int).toNat*1=k:=by simp
  repeat' (first|refine qU ?_|((first|apply dX rfl|apply Da rfl rfl|apply Db rfl rfl qN);(focus ((try intro hg);first|exact as_bool (S_lss rfl rfl) (decide_eq_true (by omega:(k:Int)<16))|exact S_ixM rfl rfl (by omega) i0|exact S_ixM rfl rfl (by omega) i1|exact S_ixM rfl rfl (by omega) i2|exact S_ixM rfl rfl (by omega) i3|exact as_int (S_shl rfl rfl (by decide)) s1|exact as_int (S_shl rfl rfl (by decide)) s2|exact as_int (S_shl rfl rfl (by decide)) s3|exact as_int (S_or rfl rfl) o1|exact as_int (S_or rfl rfl) o2|exact as_int (S_or rfl rfl) o3|exact S_ix_arr_ptr rfl rfl (by omega) (by omega)|exact S_storeA (f:=u32D) (us:=ms) rfl rfl rfl rfl (by omega)|exact qM));constructor)|refine qP ?_)
  refine loop_again (k+1,ms.set (0+(k:Int).toNat*1) (c0.toNat+c1.toNat*256+c2.toNat*65536+c3.toNat*16777216)) ⟨hlt,by simp only[List.length_set];exact hml,fun j hj=>?_⟩ (by simp only;omega) (Wk_g some rfl rfl kq)
  simp only at hj ⊢
  rw[hidx,List.getElem?_set]
  by_cases hjk:k=j
  ·subst hjk
   rw[if_pos rfl,if_pos (by omega)]
   unfold wordAt
   rw[getD_some h0,getD_some h1,getD_some h2,getD_some h3]
  ·rw[if_neg hjk]
   exact hms j (by omega)
 ·repeat' (first|refine qU ?_|((first|apply dX rfl|apply Da rfl rfl|apply Db rfl rfl qN);(focus ((try intro hg);first|exact as_bool (S_lss rfl rfl) (decide_eq_false (by omega:¬(k:Int)<16))|exact S_call md5_table rfl|exact S_call md5_turns rfl|exact qM));constructor)|refine qP ?_)
  have hms:∀ j,j<16→ms[j]? = some (wordAt l (4*j)):=fun j hj=>hms j (by omega)
  refine DW_loop (fun p:Nat×St4=>⟨[(2,.ptr 2 0),(4,.ptr 4 0),(5,.ptr 5 0),(7,.ptr 7 0),(8,.ptr 8 0),(9,.ptr 9 0),(60,.dat true (.int .i64 p.1))],
    [(2,.cells false true (st4D v)),(4,.cells false true (st4D (0,0,0,0))),(5,.cells false true (ms.map u32D)),(7,.cells false true (md5T.map u32D)),(8,.cells false true (md5R.map intD)),(9,.cells false true (st4D p.2))],162⟩)
   (fun p=>p.1≤64∧p.2=md5Steps l 0 p.1 v) (fun p=>64-p.1) (0,v) ⟨Nat.zero_le _,rfl⟩
   (Wk_g some rfl rfl kq) (fun p hR=>?_)
  obtain⟨i,a,b,c,d⟩:=p
  obtain⟨hi,hv⟩:=hR
  simp only at hi hv
  dsimp only
  by_cases hlt:i<64
  ·have hm:(i:Int).tmod 4=((i % 4:Nat):Int):=by rw[Int.tmod_eq_emod_of_nonneg (by omega)];omega
   have hT:(md5T.map u32D)[0+(i:Int).toNat*1]? = some (u32D (md5T.getD i 0)):=by
    rw[show 0+(i:Int).toNat*1=i by simp]
    exact getD_map (by rw[show md5T.length=64 by with_unfolding_all rfl];exact hlt)
   have hw':∀ g:Nat,g<16→(ms.map u32D)[0+(g:Int).toNat*1]? = some (u32D (wordAt l (4*g))):=fun g hg=>by
    rw[show 0+(g:Int).toNat*1=g by simp,List.getElem?_map,hms g hg];rfl
   have hR':∀ r:Nat,r<4→(md5R.map intD)[0+(4*(r:Int)+((i % 4:Nat):Int)).toNat*1]? = some (intD (md5R.getD (4*r+i % 4) 0)):=fun r hr=>by
    rw[show 0+(4*(r:Int)+((i % 4:Nat):Int)).toNat*1=4*r+i % 4 by omega]
    exact getD_map (by rw[show md5R.length=16 by with_unfolding_all rfl];omega)
   rcases (by omega:i / 16=0∨i / 16=1∨i / 16=2∨i / 16=3)with hr|hr|hr|hr
   ·have hq:IntKind.i64.wrap ((i:Int).tdiv 16)=0:=by rw[Int.tdiv_eq_ediv_of_nonneg (by omega),wrap_in (by simp only[InK];omega)];omega
    obtain⟨g,hg⟩:∃ g,g=md5G 0 i:=⟨_,rfl⟩
    have hglt:g<16:=hg▸md5G_lt 0 i
    have hg1:((i:Int):Int).tmod 16=(g:Int):=by rw[hg,Int.tmod_eq_emod_of_nonneg (by omega)];simp only[md5G];omega
    have hg2:(g:Int).tmod 16=(g:Int):=by rw[Int.tmod_eq_emod_of_nonneg (by omega)];omega
    have hw:=hw' g hglt
    have hR:=hR' 0 (by decide)
    have hR1:=md5R_ok (4*0+i % 4) (by omega)
    generalize htt:md5T.getD i 0=tt at hT
    generalize hrr:md5R.getD (4*0+i % 4) 0=rr at hR hR1
    generalize hww:wordAt l (4*g)=ww at hw
    repeat' (first|refine qU ?_|((first|apply dX rfl|apply Da rfl rfl|apply Db rfl rfl qN);(focus ((try intro hg);first|exact as_int (S_quo rfl rfl (by decide)) hq|exact as_int (S_rem rfl rfl (by decide)) hg1|exact as_int (S_rem rfl rfl (by decide)) hg2|exact as_int (S_rem rfl rfl (by decide)) hm|exact S_compl rfl|exact S_ix_arr_ptr rfl rfl (by omega) (by omega)|exact S_load_ptr rfl rfl hw|exact S_load_ptr rfl rfl hT|exact S_load_ptr rfl rfl hR|exact S_call (bits_rotI _ _ hR1.1 hR1.2) rfl|exact as_bool (S_lss rfl rfl) (decide_eq_true (by omega:(i:Int)<64))|exact qM));constructor)|refine qP ?_)
    refine loop_again (i+1,d,IntKind.u32.wrap (b+rot (IntKind.u32.wrap (IntKind.u32.wrap (IntKind.u32.wrap (a+md5F 0 b c d)+tt)+ww)) rr),b,c) ⟨hlt,?_⟩ (by simp only;omega) (Wk_g some rfl rfl kq)
    simp only
    rw[md5Steps,←hv,md5Step,hr,Nat.zero_add,←hg,hww,htt,hrr]
   ·have hq:IntKind.i64.wrap ((i:Int).tdiv 16)=1:=by rw[Int.tdiv_eq_ediv_of_nonneg (by omega),wrap_in (by simp only[InK];omega)];omega
    obtain⟨g,hg⟩:∃ g,g=md5G 1 i:=⟨_,rfl⟩
    have hglt:g<16:=hg▸md5G_lt 1 i
    have hg1:(5*(i:Int)+1:Int).tmod 16=(g:Int):=by rw[hg,Int.tmod_eq_emod_of_nonneg (by omega)];simp only[md5G];omega
    have hg2:(g:Int).tmod 16=(g:Int):=by rw[Int.tmod_eq_emod_of_nonneg (by omega)];omega
    have hw:=hw' g hglt
    have hR:=hR' 1 (by decide)
    have hR1:=md5R_ok (4*1+i % 4) (by omega)
    generalize htt:md5T.getD i 0=tt at hT
    generalize hrr:md5R.getD (4*1+i % 4) 0=rr at hR hR1
    generalize hww:wordAt l (4*g)=ww at hw
    repeat' (first|refine qU ?_|((first|apply dX rfl|apply Da rfl rfl|apply Db rfl rfl qN);(focus ((try intro hg);first|exact as_int (S_quo rfl rfl (by decide)) hq|exact as_int (S_rem rfl rfl (by decide)) hg1|exact as_int (S_rem rfl rfl (by decide)) hg2|exact as_int (S_rem rfl rfl (by decide)) hm|exact S_compl rfl|exact S_ix_arr_ptr rfl rfl (by omega) (by omega)|exact S_load_ptr rfl rfl hw|exact S_load_ptr rfl rfl hT|exact S_load_ptr rfl rfl hR|exact S_call (bits_rotI _ _ hR1.1 hR1.2) rfl|exact as_bool (S_lss rfl rfl) (decide_eq_true (by omega:(i:Int)<64))|exact qM));constructor)|refine qP ?_)
    refine loop_again (i+1,d,IntKind.u32.wrap (b+rot (IntKind.u32.wrap (IntKind.u32.wrap (IntKind.u32.wrap (a+md5F 1 b c d)+tt)+ww)) rr),b,c) ⟨hlt,?_⟩ (by simp only;omega) (Wk_g some rfl rfl kq)
    simp only
    rw[md5Steps,←hv,md5Step,hr,Nat.zero_add,←hg,hww,htt,hrr]
   ·have hq:IntKind.i64.wrap ((i:Int).tdiv 16)=2:=by rw[Int.tdiv_eq_ediv_of_nonneg (by omega),wrap_in (by simp only[InK];omega)];omega
    obtain⟨g,hg⟩:∃ g,g=md5G 2 i:=⟨_,rfl⟩
    have hglt:g<16:=hg▸md5G_lt 2 i
    have hg1:(3*(i:Int)+5:Int).tmod 16=(g:Int):=by rw[hg,Int.tmod_eq_emod_of_nonneg (by omega)];simp only[md5G];omega
    have hg2:(g:Int).tmod 16=(g:Int):=by rw[Int.tmod_eq_emod_of_nonneg (by omega)];omega
    have hw:=hw' g hglt
    have hR:=hR' 2 (by decide)
    have hR1:=md5R_ok (4*2+i % 4) (by omega)
    generalize htt:md5T.getD i 0=tt at hT
    generalize hrr:md5R.getD (4*2+i % 4) 0=rr at hR hR1
    generalize hww:wordAt l (4*g)=ww at hw
    repeat' (first|refine qU ?_|((first|apply dX rfl|apply Da rfl rfl|apply Db rfl rfl qN);(focus ((try intro hg);first|exact as_int (S_quo rfl rfl (by decide)) hq|exact as_int (S_rem rfl rfl (by decide)) hg1|exact as_int (S_rem rfl rfl (by decide)) hg2|exact as_int (S_rem rfl rfl (by decide)) hm|exact S_compl rfl|exact S_ix_arr_ptr rfl rfl (by omega) (by omega)|exact S_load_ptr rfl rfl hw|exact S_load_ptr rfl rfl hT|exact S_load_ptr rfl rfl hR|exact S_call (bits_rotI _ _ hR1.1 hR1.2) rfl|exact as_bool (S_lss rfl rfl) (decide_eq_true (by omega:(i:Int)<64))|exact qM));constructor)|refine qP ?_)
    refine loop_again (i+1,d,IntKind.u32.wrap (b+rot (IntKind.u32.wrap (IntKind.u32.wrap (IntKind.u32.wrap (a+md5F 2 b c d)+tt)+ww)) rr),b,c) ⟨hlt,?_⟩ (by simp only;omega) (Wk_g some rfl rfl kq)
    simp only
    rw[md5Steps,←hv,md5Step,hr,Nat.zero_add,←hg,hww,htt,hrr]
   ·have hq:IntKind.i64.wrap ((i:Int).tdiv 16)=3:=by rw[Int.tdiv_eq_ediv_of_nonneg (by omega),wrap_in (by simp only[InK];omega)];omega
    obtain⟨g,hg⟩:∃ g,g=md5G 3 i:=⟨_,rfl⟩
    have hglt:g<16:=hg▸md5G_lt 3 i
    have hg1:(7*(i:Int):Int).tmod 16=(g:Int):=by rw[hg,Int.tmod_eq_emod_of_nonneg (by omega)];simp only[md5G];omega
    have hg2:(g:Int).tmod 16=(g:Int):=by rw[Int.tmod_eq_emod_of_nonneg (by omega)];omega
    have hw:=hw' g hglt
    have hR:=hR' 3 (by decide)
    have hR1:=md5R_ok (4*3+i % 4) (by omega)
    generalize htt:md5T.getD i 0=tt at hT
    generalize hrr:md5R.getD (4*3+i % 4) 0=rr at hR hR1
    generalize hww:wordAt l (4*g)=ww at hw
    repeat' (first|refine qU ?_|((first|apply dX rfl|apply Da rfl rfl|apply Db rfl rfl qN);(focus ((try intro hg);first|exact as_int (S_quo rfl rfl (by decide)) hq|exact as_int (S_rem rfl rfl (by decide)) hg1|exact as_int (S_rem rfl rfl (by decide)) hg2|exact as_int (S_rem rfl rfl (by decide)) hm|exact S_compl rfl|exact S_ix_arr_ptr rfl rfl (by omega) (by omega)|exact S_load_ptr rfl rfl hw|exact S_load_ptr rfl rfl hT|exact S_load_ptr rfl rfl hR|exact S_call (bits_rotI _ _ hR1.1 hR1.2) rfl|exact as_bool (S_lss rfl rfl) (decide_eq_true (by omega:(i:Int)<64))|exact qM));constructor)|refine qP ?_)
    refine loop_again (i+1,d,IntKind.u32.wrap (b+rot (IntKind.u32.wrap (IntKind.u32.wrap (IntKind.u32.wrap (a+md5F 3 b c d)+tt)+ww)) rr),b,c) ⟨hlt,?_⟩ (by simp only;omega) (Wk_g some rfl rfl kq)
    simp only
    rw[md5Steps,←hv,md5Step,hr,Nat.zero_add,←hg,hww,htt,hrr]
  ·have hi64:i=64:=by omega
   subst hi64
   repeat' (first|refine DW_loopU ?_|refine DWin_step ?_|refine qU ?_|((first|apply dX rfl|apply Da rfl rfl|apply Db rfl rfl qN);(focus ((try intro hg);first|exact as_bool (S_lss rfl rfl) (decide_eq_false (by omega:¬((64:Nat):Int)<64))|exact S_al rfl|exact S_bx rfl rfl|exact S_store rfl rfl rfl rfl rfl rfl|exact S_alloc 2001 rfl|exact S_alloc 2002 rfl|exact S_alloc 2003 rfl|exact S_alloc 2004 rfl|exact S_alloc 2005 rfl|(apply Pu.ok;repeat' (first|rfl|exact .inK (by simp only[InK];omega)|exact .wr|constructor|decide|omega))));constructor)|refine qP ?_)
   refine retN (.cellA inferInstance rfl rfl rfl rfl (.inl rfl) .nil) ?_
   unfold md5Block
   rw[←hv]
   rfl
end Go.Proofs.YtcdhlofhhcgohaaGreat
namespace Go.Proofs.YtcdhlofhhcgohaaGreat
open Go.RowKit
theorem byteAt_succ {n:Int} (_:0≤n) (k:Nat):byteAt n (k+1)=byteAt (n / 256) k:=by
 unfold byteAt
 have:n / 2 ^ (8*(k+1))=n / 256 / 2 ^ (8*k):=by
  rw[Int.ediv_ediv_of_nonneg (by decide:(0:Int)≤256),show(8*(k+1))=8+8*k by omega,Int.pow_add]
  rfl
 rw[this]
theorem beBytes_snoc : ∀ (s:Nat) {n:Int} (_:0≤n),beBytes n (s+1)=beBytes (n / 256) s++[byteAt n 0]
 | 0,n,h=>rfl
 | s+1,n,h=>by
  rw[beBytes,beBytes_snoc s h,byteAt_succ h,beBytes]
  rfl
theorem byteAt_zero {n:Int} (h0:0≤n):((byteAt n 0).toNat:Int)=n % 256:=by
 rw[byteAt_v h0];simp
theorem beNum_lt : ∀ (k:Nat) (l:List UInt8),l.length=k→k≤8→beNum l<256 ^ k
 | 0,l,h,_=>by
  have:l=[]:=List.length_eq_zero_iff.1 h
  subst this;decide
 | k+1,l,h,h8=>by
  rcases List.eq_nil_or_concat l with rfl|⟨l',c,rfl⟩
  ·cases h
  ·rw[List.concat_eq_append]at h ⊢
   have hl:l'.length=k:=by simpa using h
   have ih:=beNum_lt k l' hl (by omega)
   have h0:=(beNum_range l').1
   rw[beNum_snoc,Int.pow_succ]
   have hc:=c.toNat_lt
   have:beNum l'*256+c.toNat<256 ^ k*256:=by omega
   have h1:(beNum l'*256+c.toNat) % 18446744073709551616≤beNum l'*256+c.toNat:=by omega
   omega
theorem pow_le_7 {k:Nat} (h:k≤7):(256:Int) ^ k≤72057594037927936:=by
 rcases (by omega:k=0∨k=1∨k=2∨k=3∨k=4∨k=5∨k=6∨k=7)with h|h|h|h|h|h|h|h<;>rw[h]<;>decide
theorem beNum_snoc8 {l:List UInt8} {c:UInt8} (h:l.length≤7):beNum (l++[c])=beNum l*256+c.toNat:=by
 have h1:=beNum_lt l.length l rfl (by omega)
 have h2:=pow_le_7 h
 have hc:=c.toNat_lt
 have h0:=(beNum_range l).1
 rw[beNum_snoc];omega
theorem num_be : ∀ (s:Nat) (n:Int),0≤n→n<256 ^ s→s≤8→beNum (beBytes n s)=n
 | 0,n,h0,h1,_=>by
  have:n=0:=by simp at h1;omega
  subst this;rfl
 | s+1,n,h0,h1,h8=>by
  rw[Int.pow_succ]at h1
  have hd:n / 256<256 ^ s:=by omega
  rw[beBytes_snoc _ h0,beNum_snoc8 (by simp[beBytes_len];omega),num_be s (n / 256) (by omega) hd (by omega),byteAt_zero h0]
  omega
theorem beNum_22 {n m:Int} (h0:0≤n) (h1:n<65536) (k0:0≤m) (k1:m<65536):beNum (beBytes n 2++beBytes m 2)=n*65536+m:=by
 have e:beBytes n 2++beBytes m 2=beBytes (n*65536+m) 4:=by
  have e1:beBytes (n*65536+m) 4=beBytes ((n*65536+m) / 256) 3++[byteAt (n*65536+m) 0]:=beBytes_snoc 3 (by omega)
  have e2:beBytes ((n*65536+m) / 256) 3=beBytes ((n*65536+m) / 256 / 256) 2++[byteAt ((n*65536+m) / 256) 0]:=beBytes_snoc 2 (by omega)
  have e3:(n*65536+m) / 256 / 256=n:=by omega
  have e4:beBytes m 2=beBytes (m / 256) 1++[byteAt m 0]:=beBytes_snoc 1 (by omega)
  have e5:beBytes (m / 256) 1=[byteAt (m / 256) 0]:=rfl
  have f1:byteAt (n*65536+m) 0=byteAt m 0:=by
   apply UInt8.toNat_inj.1
   have:=byteAt_zero (n:=n*65536+m) (by omega)
   have:=byteAt_zero (n:=m) (by omega)
   omega
  have f2:byteAt ((n*65536+m) / 256) 0=byteAt (m / 256) 0:=by
   apply UInt8.toNat_inj.1
   have:=byteAt_zero (n:=(n*65536+m) / 256) (by omega)
   have:=byteAt_zero (n:=m / 256) (by omega)
   omega
  rw[e1,e2,e3,e4,e5,f1,f2];simp
 rw[e,num_be 4 _ (by omega) (by omega) (by decide)]
theorem append_of {α:Type} {b x y:List α} {k:Nat} (h:b=x++y) (hl:x.length=k):b.take k=x∧b.drop k=y:=by
 subst h hl;simp
end Go.Proofs.YtcdhlofhhcgohaaGreat
namespace Go.Proofs.YtcdhlofhhcgohaaGreat
open Go.RowKit
theorem byteN_chunk {q:List UInt8} {p j:Nat} (hj:j<64):byteN ((q.drop p).take 64) j=byteN q (p+j):=by
 unfold byteN
 rw[List.getD_eq_getElem?_getD,List.getD_eq_getElem?_getD,List.getElem?_take,if_pos hj,List.getElem?_drop]
theorem wordAt_chunk {q:List UInt8} {p j:Nat} (hj:j+3<64):wordAt ((q.drop p).take 64) (0+j)=wordAt q (p+j):=by
 unfold wordAt
 rw[Nat.zero_add,byteN_chunk (by omega),byteN_chunk (by omega),byteN_chunk (by omega),byteN_chunk (by omega)]
 simp only[Nat.add_assoc]
theorem steps_chunk {q:List UInt8} {p:Nat} {v:St4}:∀ i,md5Steps ((q.drop p).take 64) 0 i v=md5Steps q p i v
 | 0=>rfl
 | i+1=>by
  have:=md5G_lt (i / 16) i
  rw[md5Steps,md5Steps,steps_chunk i,md5Step,md5Step,wordAt_chunk (by omega)]
theorem block_chunk {q:List UInt8} {p:Nat} {v:St4}:md5Block ((q.drop p).take 64) 0 v=md5Block q p v:=by
 unfold md5Block;rw[steps_chunk]
def St4.ok (v:St4):Prop:=0≤v.1∧0≤v.2.1∧0≤v.2.2.1∧0≤v.2.2.2
theorem blocks_ok (q:List UInt8):∀ k,St4.ok (md5Blocks q k md5Iv)
 | 0=>by rw[md5Blocks];refine⟨?_,?_,?_,?_⟩<;>decide
 | k+1=>by
  rw[md5Blocks,md5Block,add4]
  simp only[St4.ok,wrap_u32]
  omega
theorem le_b {x:Int} (h:0≤x):IntKind.u8.wrap x=((byteAt x 0).toNat:Int)∧IntKind.u8.wrap (IntKind.u32.shrI x 8)=((byteAt x 1).toNat:Int)∧IntKind.u8.wrap (IntKind.u32.shrI x 16)=((byteAt x 2).toNat:Int)∧IntKind.u8.wrap (IntKind.u32.shrI x 24)=((byteAt x 3).toNat:Int):=by
 have hb:IntKind.u32.bits=32:=rfl
 have key:∀ k:Nat,k≤3→IntKind.u8.wrap (IntKind.u32.shrI x ((8*k:Nat):Int))=((byteAt x k).toNat:Int):=fun k hk=>by
  unfold IntKind.shrI
  rw[hb,wrap_u8,byteAt_v h,Int.toNat_natCast,Nat.min_eq_left (by omega),Int.fdiv_eq_ediv_of_nonneg _ (Int.pow_nonneg (by decide))]
 refine⟨?_,key 1 (by decide),key 2 (by decide),key 3 (by decide)⟩
 rw[wrap_u8,byteAt_v h];simp
def zerosN (n:Nat):Nat:=(119-n % 64) % 64
theorem md5Pad_eq (b:List UInt8):md5Pad b=b++[128]++List.replicate (zerosN b.length) 0++leBytes (8*b.length) 8:=rfl
theorem md5Pad_len (b:List UInt8):(md5Pad b).length=b.length+9+zerosN b.length∧(md5Pad b).length % 64=0:=by
 have e:(md5Pad b).length=b.length+9+zerosN b.length:=by
  rw[md5Pad_eq];simp[leBytes_len];omega
 refine⟨e,?_⟩
 rw[e];unfold zerosN;omega
attribute [local irreducible] SStep DW DWin DOps thenQ inBlk loopQ retQ retQG FnF FnG Wk IntKind.wrap IntKind.andI IntKind.orI IntKind.xorI IntKind.andNotI IntKind.shlI IntKind.shrI rot wordAt byteAt md5Block
set_option maxRecDepth 10000 in
set_option maxHeartbeats 4000000 in
theorem md5_Sum (b:List UInt8) (hb:b.length≤4194304):FnG Tryz.prog 128 [.dat false (.slice (b.map byteV))] [] (.own 1000 0 0 16) [(1000,.row 0 false true 1 ((md5S b).map byteV))]:=by
 have hml:(b.map byteV).length=b.length:=by simp
 obtain⟨hql,hq64⟩:=md5Pad_len b
 have hz:zerosN b.length<64:=by unfold zerosN;omega
 have hS:md5S b=md5Out (md5Blocks (md5Pad b) ((md5Pad b).length / 64) md5Iv):=rfl
 rw[hS]
 have hok:=blocks_ok (md5Pad b)
 obtain⟨q,hq⟩:∃ q,q=md5Pad b:=⟨_,rfl⟩
 rw[←hq]at hql hq64 hok ⊢
 refine fnG_of Tryz.func128 rfl rfl rfl ?_
 simp only[envD]
 repeat' (first|refine qU ?_|(apply dt rfl;case h=>first|exact S_callG0 _ (clone_bytes b (by omega)) rfl rfl (.own _ _))|((first|apply dX rfl|apply Da rfl rfl|apply Db rfl rfl qN);(focus ((try intro hg);first|exact S_callG0 _ (clone_bytes b (by omega)) rfl rfl (.own _ _)|exact S_appM (f:=byteV) (us:=b) (bs := [128]) rfl rfl (.dat _ _) rfl rfl (.inr ⟨rfl,inferInstance⟩) rfl (by simp only[List.length_cons,List.length_nil];omega)|exact qM));constructor)|refine qP ?_)
 refine DW_loop (fun p:Nat×List UInt8=>⟨[(0,.dat false (.slice (b.map byteV))),(3,.own 10 0 0 p.2.length)],[(10,.row 0 false true 1 (p.2.map byteV))],64⟩)
  (fun p=>p.1≤zerosN b.length∧p.2=b++[128]++List.replicate p.1 0) (fun p=>zerosN b.length-p.1) (0,b++[128]) ⟨Nat.zero_le _,by simp⟩
  (Wk_g some rfl rfl kq) (fun p hR=>?_)
 obtain⟨z,m⟩:=p
 obtain⟨hz1,hm⟩:=hR
 simp only at hz1 hm
 dsimp only
 have hmlen:m.length=b.length+1+z:=by rw[hm];simp;omega
 have hrem:((m.length:Nat):Int).tmod 64=((m.length % 64:Nat):Int):=by rw[Int.tmod_eq_emod_of_nonneg (by omega)];omega
 by_cases hlt:z<zerosN b.length
 ·have hne:decide (((m.length % 64:Nat):Int)≠56)=true:=decide_eq_true (by unfold zerosN at hlt;omega)
  repeat' (first|refine qU ?_|((first|apply dX rfl|apply Da rfl rfl|apply Db rfl rfl qN);(focus ((try intro hg);first|exact as_int (S_rem rfl rfl (by decide)) hrem|exact as_bool (S_neq rfl rfl) hne|exact S_appM (f:=byteV) (us:=m) (bs := [0]) rfl rfl (.dat _ _) rfl rfl (.inr ⟨rfl,inferInstance⟩) rfl (by simp only[List.length_cons,List.length_nil];omega)|exact qM));constructor)|refine qP ?_)
  refine loop_again (z+1,m++[0]) ⟨hlt,?_⟩ (by simp only;omega) (Wk_g some rfl rfl kq)
  simp only
  rw[hm,List.replicate_succ',←List.append_assoc]
 ·have hze:z=zerosN b.length:=by omega
  have hne:decide (((m.length % 64:Nat):Int)≠56)=false:=decide_eq_false (by unfold zerosN at hze;omega)
  have h8:((b.map byteV).length:Int)*8=8*b.length:=by omega
  obtain⟨n,hn⟩:∃ n:Int,n=8*b.length:=⟨_,rfl⟩
  have hn0:0≤n:=by omega
  have h8':=h8.trans hn.symm
  repeat' (first|refine qU ?_|((first|apply dX rfl|apply Da rfl rfl|apply Db rfl rfl qN);(focus ((try intro hg);first|exact as_int (S_rem rfl rfl (by decide)) hrem|exact as_bool (S_neq rfl rfl) hne|exact as_int (I_mul rfl rfl (by simp only[InK];omega)) h8'|exact qM));constructor)|refine qP ?_)
  refine DW_loop (fun p:Nat×List UInt8=>⟨[(3,.own 10 0 0 p.2.length),(4,.dat true (.int .u64 (n / 256 ^ p.1))),(24,.dat true (.int .i64 p.1))],[(10,.row 0 false true 1 (p.2.map byteV))],64⟩)
   (fun p=>p.1≤8∧p.2=m++leBytes n p.1) (fun p=>8-p.1) (0,m) ⟨Nat.zero_le _,by simp[leBytes]⟩
   (Wk_gen some rfl rfl (by simp only[Int.pow_zero,Int.ediv_one];(repeat' (first|exact trivial|rfl|exact listLe_map _|exact⟨_,rfl,.inl rfl⟩|exact⟨_,rfl,.inr (.inl rfl)⟩|exact⟨_,rfl,.inr (.inr rfl)⟩|refine⟨_,_,rfl,rfl,?_⟩|exact⟨_,rfl,rfl⟩|exact⟨_,_,_,_,rfl,rfl,rfl⟩|exact⟨_,rfl⟩|exact⟨_,_,rfl⟩|apply And.intro))) (by simp only[Int.pow_zero,Int.ediv_one];(repeat' (first|exact trivial|rfl|exact listLe_map _|exact⟨_,rfl,.inl rfl⟩|exact⟨_,rfl,.inr (.inl rfl)⟩|exact⟨_,rfl,.inr (.inr rfl)⟩|refine⟨_,_,rfl,rfl,?_⟩|exact⟨_,rfl,rfl⟩|exact⟨_,_,_,_,rfl,rfl,rfl⟩|exact⟨_,rfl⟩|exact⟨_,_,rfl⟩|apply And.intro)))) (fun p hR=>?_)
  obtain⟨j,w⟩:=p
  obtain⟨hj,hw⟩:=hR
  simp only at hj hw
  dsimp only
  have hwl:w.length=m.length+j:=by rw[hw];simp[leBytes_len]
  have hp:(0:Int)<256 ^ j:=Int.pow_pos (by decide)
  have hd0:0≤n / 256 ^ j:=Int.ediv_nonneg hn0 (Int.le_of_lt hp)
  by_cases hlt:j<8
  ·have hb1:IntKind.u8.wrap (n / 256 ^ j)=((byteAt n j).toNat:Int):=by
    rw[←beBytes_shift n hn0,byteAt_zero hd0,wrap_u8]
   have hs1:IntKind.u64.shrI (n / 256 ^ j) 8=n / 256 ^ (j+1):=by
    unfold IntKind.shrI
    have e:(2:Int) ^ (min (8:Int).toNat IntKind.u64.bits)=256:=by decide
    rw[e,Int.fdiv_eq_ediv_of_nonneg _ (by decide),Int.ediv_ediv_of_nonneg (Int.le_of_lt hp),Int.pow_succ]
   repeat' (first|refine qU ?_|((first|apply dX rfl|apply Da rfl rfl|apply Db rfl rfl qN);(focus ((try intro hg);first|exact as_bool (S_lss rfl rfl) (decide_eq_true (by omega:(j:Int)<8))|exact C_toInt rfl hb1|exact as_int (S_shr rfl rfl (by decide)) hs1|exact S_appM (f:=byteV) (us:=w) (bs := [byteAt n j]) rfl rfl (.dat _ _) rfl rfl (.inr ⟨rfl,inferInstance⟩) rfl (by simp only[List.length_cons,List.length_nil];omega)|exact qM));constructor)|refine qP ?_)
   refine loop_again (j+1,w++[byteAt n j]) ⟨hlt,?_⟩ (by simp only;omega) (Wk_g some rfl rfl kq)
   simp only
   rw[hw,leBytes,←List.append_assoc]
  ·have hwq:w=q:=by
    rw[hq,md5Pad_eq,hw,hm,hze,hn,show j=8 by omega]
   subst hwq
   repeat' (first|refine qU ?_|((first|apply dX rfl|apply Da rfl rfl|apply Db rfl rfl qN);(focus ((try intro hg);first|exact as_bool (S_lss rfl rfl) (decide_eq_false (by omega:¬(j:Int)<8))|exact qM));constructor)|refine qP ?_)
   obtain⟨K,hK⟩:∃ K,w.length=64*K:=⟨w.length / 64,by omega⟩
   have hKd:w.length / 64=K:=by omega
   rw[hKd]
   refine DW_seal 3 rfl rfl (by simp) ?_
   refine DW_loop (fun p:Nat×List UInt8×St4=>⟨[(3,.dat true (.slice (p.2.1.map byteV))),(5,.ptr 5 0)],[(5,.cells false true (st4D p.2.2))],64⟩)
    (fun p=>p.1≤K∧p.2.1=w.drop (64*p.1)∧p.2.2=md5Blocks w p.1 md5Iv) (fun p=>K-p.1) (0,w,md5Iv) ⟨Nat.zero_le _,rfl,rfl⟩
    (Wk_g some rfl rfl kq) (fun p hR=>?_)
   obtain⟨k,r,v⟩:=p
   obtain⟨hk,hr,hv⟩:=hR
   simp only at hk hr hv
   dsimp only
   have hrl:r.length=64*(K-k):=by rw[hr];simp;omega
   have hrm:(r.map byteV).length=r.length:=by simp
   by_cases hlt:k<K
   ·have hcl:(r.take 64).length=64:=by simp;omega
    have hst:md5Block (r.take 64) 0 v=md5Blocks w (k+1) md5Iv:=by rw[md5Blocks,←hv,hr,block_chunk]
    have hd:r.drop 64=w.drop (64*(k+1)):=by rw[hr,List.drop_drop,show 64*k+64=64*(k+1) by omega]
    obtain⟨ch,hch⟩:∃ ch,ch=r.take 64:=⟨_,rfl⟩
    rw[←hch]at hcl hst
    have hgt:decide ((0:Int)<((r.map byteV).length:Int))=true:=decide_eq_true (by omega)
    repeat' (first|refine qU ?_|((first|apply dX rfl|apply Da rfl rfl|apply Db rfl rfl qN);(focus ((try intro hg);first|exact as_bool (S_gtr rfl rfl) hgt|exact S_slM (us:=r) ch rfl (.none _) (.some _ _ _ _ 64 rfl) (by omega) (by omega) hch.symm|exact S_slM (us:=r) (r.drop 64) rfl (.some _ _ _ _ 64 rfl) (.none _) (by omega) (by omega) tail_eq|exact S_call (md5_block v ch hcl) rfl|exact qM));constructor)|refine qP ?_)
    refine loop_again (k+1,r.drop 64,md5Block ch 0 v) ⟨hlt,hd,hst⟩ (by simp only;omega) (Wk_g some rfl rfl kq)
   ·have hkK:k=K:=by omega
    subst hkK
    rw[←hv]
    have hvok:=hok k
    rw[←hv]at hvok
    obtain⟨a,b',c,d⟩:=v
    obtain⟨v1,v2,v3,v4⟩:=hvok
    simp only at v1 v2 v3 v4
    obtain⟨a0,a1,a2,a3⟩:=le_b v1
    obtain⟨b0,b1,b2,b3⟩:=le_b v2
    obtain⟨c0,c1,c2,c3⟩:=le_b v3
    obtain⟨d0,d1,d2,d3⟩:=le_b v4
    have hgt:decide ((0:Int)<((r.map byteV).length:Int))=false:=decide_eq_false (by omega)
    repeat' (first|refine DW_loopU ?_|refine DWin_step ?_|refine qU ?_|(apply dt rfl;case h=>first|exact S_appNM _ (f:=byteV) (nf:=true) (bs := [byteAt a 0,byteAt a 1,byteAt a 2,byteAt a 3]) rfl (.dat _ _) rfl (.inr inferInstance) rfl (by simp only[List.length_cons,List.length_nil];omega) rfl)|((first|apply dX rfl|apply Da rfl rfl|apply Db rfl rfl qN);(focus ((try intro hg);first|exact as_bool (S_gtr rfl rfl) hgt|exact C_toInt rfl a0|exact C_toInt rfl a1|exact C_toInt rfl a2|exact C_toInt rfl a3|exact C_toInt rfl b0|exact C_toInt rfl b1|exact C_toInt rfl b2|exact C_toInt rfl b3|exact C_toInt rfl c0|exact C_toInt rfl c1|exact C_toInt rfl c2|exact C_toInt rfl c3|exact C_toInt rfl d0|exact C_toInt rfl d1|exact C_toInt rfl d2|exact C_toInt rfl d3|exact S_shr rfl rfl (by decide)|exact S_appNM _ (f:=byteV) (nf:=true) (bs := [byteAt a 0,byteAt a 1,byteAt a 2,byteAt a 3]) rfl (.dat _ _) rfl (.inr inferInstance) rfl (by simp only[List.length_cons,List.length_nil];omega) rfl|exact S_appM (f:=byteV) (bs := [byteAt b' 0,byteAt b' 1,byteAt b' 2,byteAt b' 3]) rfl rfl (.dat _ _) rfl rfl (.inr ⟨rfl,inferInstance⟩) rfl (by simp only[List.length_append,List.length_cons,List.length_nil];omega)|exact S_appM (f:=byteV) (bs := [byteAt c 0,byteAt c 1,byteAt c 2,byteAt c 3]) rfl rfl (.dat _ _) rfl rfl (.inr ⟨rfl,inferInstance⟩) rfl (by simp only[List.length_append,List.length_cons,List.length_nil];omega)|exact S_appM (f:=byteV) (bs := [byteAt d 0,byteAt d 1,byteAt d 2,byteAt d 3]) rfl rfl (.dat _ _) rfl rfl (.inr ⟨rfl,inferInstance⟩) rfl (by simp only[List.length_append,List.length_cons,List.length_nil];omega)|exact S_al rfl|exact S_bx rfl rfl|exact S_store rfl rfl rfl rfl rfl rfl|exact S_alloc 2001 rfl|exact S_alloc 2002 rfl|exact S_alloc 2003 rfl|exact S_alloc 2004 rfl|exact S_alloc 2005 rfl|(apply Pu.ok;repeat' (first|rfl|exact .inK (by simp only[InK];omega)|exact .wr|constructor|decide|omega))));constructor)|refine qP ?_)
    exact gOwn (Wk_g (fun g=>if g=1000 then some 61 else none) rfl rfl kq)
end Go.Proofs.YtcdhlofhhcgohaaGreat
