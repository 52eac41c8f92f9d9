/- MD5: the document's (hedgeref1): Round, Sum. -/
import Derived.Test.YtcdhlofhhcgohaaGreatwcMd5
import Derived.Test.YtcdhlofhhcgohaaGreatwcRgW
namespace Go.Proofs.YtcdhlofhhcgohaaGreat
open Go.RowKit
theorem wrap_u32 (a:Int):IntKind.u32.wrap a=a % 4294967296:=by
 simp[IntKind.wrap,IntKind.bits,IntKind.signed]
theorem zlu (a:Int) (k:Nat) (hk:k≤32) (h0:0≤a) (h1:a*2 ^ k<4294967296):IntKind.u32.shlI a (k:Int)=a*2 ^ k:=by
 unfold IntKind.shlI
 have hb:IntKind.u32.bits=32:=rfl
 rw[hb,Int.toNat_natCast,Nat.min_eq_left hk,wrap_u32]
 have:0≤a*2 ^ k:=Int.mul_nonneg h0 (Int.pow_nonneg (by decide))
 omega
theorem zoO (a b:Int) (k:Nat) (h0:0≤a) (h1:a<2 ^ k) (hb0:0≤b) (h:a+b*2 ^ k<4294967296):IntKind.u32.orI a (b*2 ^ k)=a+b*2 ^ k:=by
 have hp:(0:Int)<2 ^ k:=Int.pow_pos (by decide)
 have hb2:0≤b*2 ^ k:=Int.mul_nonneg hb0 (Int.le_of_lt hp)
 obtain⟨x,rfl⟩:=Int.eq_ofNat_of_zero_le h0
 obtain⟨y,rfl⟩:=Int.eq_ofNat_of_zero_le hb0
 have e:((y:Int)*2 ^ k)=((y*2 ^ k:Nat):Int):=by simp
 rw[e]at h hb2 ⊢
 have h1':x<2 ^ k:=by
  have:((2:Int) ^ k)=((2 ^ k:Nat):Int):=by simp
  rw[this]at h1
  exact Int.ofNat_lt.1 h1
 unfold IntKind.orI
 have hb:IntKind.u32.bits=32:=rfl
 have e1:(BitVec.ofInt 32 (x:Int) ||| BitVec.ofInt 32 ((y*2 ^ k:Nat):Int)).toNat=x ||| (y*2 ^ k):=by
  rw[BitVec.toNat_or]
  congr 1
  ·simp[];omega
  ·rw[BitVec.toNat_ofInt];omega
 rw[hb,e1,Nat.or_comm,←Nat.shiftLeft_eq,←Nat.shiftLeft_add_eq_or_of_lt h1',Nat.shiftLeft_eq,wrap_u32]
 omega
theorem zsL {c0 c1 c2 c3:UInt8}:IntKind.u32.shlI (c1.toNat:Int) 8=c1.toNat*256∧IntKind.u32.shlI (c2.toNat:Int) 16=c2.toNat*65536∧IntKind.u32.shlI (c3.toNat:Int) 24=c3.toNat*16777216 ∧
  IntKind.u32.orI (c0.toNat:Int) (c1.toNat*256)=c0.toNat+c1.toNat*256∧IntKind.u32.orI (c0.toNat+c1.toNat*256:Int) (c2.toNat*65536)=c0.toNat+c1.toNat*256+c2.toNat*65536 ∧
  IntKind.u32.orI (c0.toNat+c1.toNat*256+c2.toNat*65536:Int) (c3.toNat*16777216)=c0.toNat+c1.toNat*256+c2.toNat*65536+c3.toNat*16777216:=by
 have h0:=c0.toNat_lt
 have h1:=c1.toNat_lt
 have h2:=c2.toNat_lt
 have h3:=c3.toNat_lt
 have p8:(2:Int) ^ 8=256:=by decide
 have p16:(2:Int) ^ 16=65536:=by decide
 have p24:(2:Int) ^ 24=16777216:=by decide
 have a1:=zlu c1.toNat 8 (by decide) (by omega) (by rw[p8];omega)
 have a2:=zlu c2.toNat 16 (by decide) (by omega) (by rw[p16];omega)
 have a3:=zlu c3.toNat 24 (by decide) (by omega) (by rw[p24];omega)
 have b1:=zoO c0.toNat c1.toNat 8 (by omega) (by rw[p8];omega) (by omega) (by rw[p8];omega)
 have b2:=zoO (c0.toNat+c1.toNat*256) c2.toNat 16 (by omega) (by rw[p16];omega) (by omega) (by rw[p16];omega)
 have b3:=zoO (c0.toNat+c1.toNat*256+c2.toNat*65536) c3.toNat 24 (by omega) (by rw[p24];omega) (by omega) (by rw[p24];omega)
 rw[p8]at a1 b1
 rw[p16]at a2 b2
 rw[p24]at a3 b3
 exact⟨a1,a2,a3,b1,b2,b3⟩
theorem getD_some {l:List UInt8} {k:Nat} {c:UInt8} (h:l[k]? = some c):zi3 l k=c.toNat:=by
 unfold zi3
 rw[List.getD_eq_getElem?_getD,h];rfl
theorem zgQ : ∀ j,j<16→0≤md5R.getD j 0∧md5R.getD j 0<32:=by decide
theorem zd0 {α:Type} {b:List α} {k:Nat} (h:k<b.length):∃ x,b[k]? = some x:=⟨_,List.getElem?_eq_getElem h⟩
theorem getD_map {f:Int→D} {l:List Int} {k:Nat} (h:k<l.length):(l.map f)[k]? = some (f (l.getD k 0)):=by
 rw[List.getElem?_map,List.getElem?_eq_getElem h,List.getD_eq_getElem?_getD,List.getElem?_eq_getElem h];rfl
def st4D (v:St4):List D := [u32D v.1,u32D v.2.1,u32D v.2.2.1,u32D v.2.2.2]
def st4V (v:St4):V := .agg [u32C v.1,u32C v.2.1,u32C v.2.2.1,u32C v.2.2.2]
attribute [local irreducible] SStep DW DWin DOps zaG zaE zaJ retQ zaN FnF FnG Wk IntKind.wrap IntKind.andI IntKind.orI IntKind.xorI IntKind.andNotI IntKind.shlI IntKind.shrI rot zca
set_option maxRecDepth 10000 in
set_option maxHeartbeats 4000000 in
theorem zoP (v:St4) (l:List UInt8) (hl:l.length=64):FnF Tryz.prog 150 [st4V v,.slice (l.map zak)] (st4V (zbG l 0 v)):=by
 refine zal Tryz.func150 rfl rfl rfl ?_
 simp only[zap]
 repeat' (first|refine qU ?_|((first|apply dX rfl|apply Da rfl rfl|apply Db rfl rfl qN);(focus ((try intro hg);first|exact qM));constructor)|refine qP ?_)
 refine zag (fun p:Nat×List Int=>⟨[(1,.dat false (.slice (l.map zak))),(2,.ptr 2 0),(4,.ptr 4 0),(5,.ptr 5 0),(18,.dat true (.int .i64 p.1))],
   [(2,.cells false true (st4D v)),(4,.cells false true (st4D (0,0,0,0))),(5,.cells false true (p.2.map u32D))],162⟩)
  (fun p=>p.1≤16∧p.2.length=16∧∀ j,j<p.1→p.2[j]? = some (zca l (4*j))) (fun p=>16-p.1) (0,List.replicate 16 0) ⟨by decide,rfl,fun j h=>by cases h⟩
  (Wk_g some rfl rfl kq) (fun p hR=>?_)
 obtain⟨k,ms⟩:=p
 obtain⟨hk,hml,hms⟩:=hR
 simp only at hk hml hms
 dsimp only
 by_cases hlt:k<16
 ·obtain⟨c0,h0⟩:=zd0 (b:=l) (k:=4*k) (by omega)
  obtain⟨c1,h1⟩:=zd0 (b:=l) (k:=4*k+1) (by omega)
  obtain⟨c2,h2⟩:=zd0 (b:=l) (k:=4*k+2) (by omega)
  obtain⟨c3,h3⟩:=zd0 (b:=l) (k:=4*k+3) (by omega)
  have i0:l[(4*(k:Int)).toNat]? = some c0:=by rw[←h0];congr 1
  have i1:l[(4*(k:Int)+1).toNat]? = some c1:=by rw[←h1];congr 1
  have i2:l[(4*(k:Int)+2).toNat]? = some c2:=by rw[←h2];congr 1
  have i3:l[(4*(k:Int)+3).toNat]? = some c3:=by rw[←h3];congr 1
  have g0:=c0.toNat_lt
  have g1:=c1.toNat_lt
  have g2:=c2.toNat_lt
  have g3:=c3.toNat_lt
  obtain⟨s1,s2,s3,o1,o2,o3⟩ := @zsL c0 c1 c2 c3
  have hidx:0+(k:Int).toNat*1=k:=by simp
  repeat' (first|refine qU ?_|((first|apply dX rfl|apply Da rfl rfl|apply Db rfl rfl qN);(focus ((try intro hg);first|exact zab (zam rfl rfl) (decide_eq_true (by omega:(k:Int)<16))|exact zaf rfl rfl (by omega) i0|exact zaf rfl rfl (by omega) i1|exact zaf rfl rfl (by omega) i2|exact zaf rfl rfl (by omega) i3|exact zaw (ziH rfl rfl (by decide)) s1|exact zaw (ziH rfl rfl (by decide)) s2|exact zaw (ziH rfl rfl (by decide)) s3|exact zaw (S_or rfl rfl) o1|exact zaw (S_or rfl rfl) o2|exact zaw (S_or rfl rfl) o3|exact zbV rfl rfl (by omega) (by omega)|exact ziY (f:=u32D) (us:=ms) rfl rfl rfl rfl (by omega)|exact qM));constructor)|refine qP ?_)
  refine zaa (k+1,ms.set (0+(k:Int).toNat*1) (c0.toNat+c1.toNat*256+c2.toNat*65536+c3.toNat*16777216)) ⟨hlt,by simp only[List.length_set];exact hml,fun j hj=>?_⟩ (by simp only;omega) (Wk_g some rfl rfl kq)
  simp only at hj ⊢
  rw[hidx,List.getElem?_set]
  by_cases hjk:k=j
  ·subst hjk
   rw[if_pos rfl,if_pos (by omega)]
   unfold zca
   rw[getD_some h0,getD_some h1,getD_some h2,getD_some h3]
  ·rw[if_neg hjk]
   exact hms j (by omega)
 ·repeat' (first|refine qU ?_|((first|apply dX rfl|apply Da rfl rfl|apply Db rfl rfl qN);(focus ((try intro hg);first|exact zab (zam rfl rfl) (decide_eq_false (by omega:¬(k:Int)<16))|exact zac zoN rfl|exact zac zoM rfl|exact qM));constructor)|refine qP ?_)
  have hms:∀ j,j<16→ms[j]? = some (zca l (4*j)):=fun j hj=>hms j (by omega)
  refine zag (fun p:Nat×St4=>⟨[(2,.ptr 2 0),(4,.ptr 4 0),(5,.ptr 5 0),(7,.ptr 7 0),(8,.ptr 8 0),(9,.ptr 9 0),(60,.dat true (.int .i64 p.1))],
    [(2,.cells false true (st4D v)),(4,.cells false true (st4D (0,0,0,0))),(5,.cells false true (ms.map u32D)),(7,.cells false true (md5T.map u32D)),(8,.cells false true (md5R.map intD)),(9,.cells false true (st4D p.2))],162⟩)
   (fun p=>p.1≤64∧p.2=zby l 0 p.1 v) (fun p=>64-p.1) (0,v) ⟨Nat.zero_le _,rfl⟩
   (Wk_g some rfl rfl kq) (fun p hR=>?_)
  obtain⟨i,a,b,c,d⟩:=p
  obtain⟨hi,hv⟩:=hR
  simp only at hi hv
  dsimp only
  by_cases hlt:i<64
  ·have hm:(i:Int).tmod 4=((i % 4:Nat):Int):=by rw[Int.tmod_eq_emod_of_nonneg (by omega)];omega
   have hT:(md5T.map u32D)[0+(i:Int).toNat*1]? = some (u32D (md5T.getD i 0)):=by
    rw[show 0+(i:Int).toNat*1=i by simp]
    exact getD_map (by rw[show md5T.length=64 by with_unfolding_all rfl];exact hlt)
   have hw':∀ g:Nat,g<16→(ms.map u32D)[0+(g:Int).toNat*1]? = some (u32D (zca l (4*g))):=fun g hg=>by
    rw[show 0+(g:Int).toNat*1=g by simp,List.getElem?_map,hms g hg];rfl
   have hR':∀ r:Nat,r<4→(md5R.map intD)[0+(4*(r:Int)+((i % 4:Nat):Int)).toNat*1]? = some (intD (md5R.getD (4*r+i % 4) 0)):=fun r hr=>by
    rw[show 0+(4*(r:Int)+((i % 4:Nat):Int)).toNat*1=4*r+i % 4 by omega]
    exact getD_map (by rw[show md5R.length=16 by with_unfolding_all rfl];omega)
   rcases (by omega:i / 16=0∨i / 16=1∨i / 16=2∨i / 16=3)with hr|hr|hr|hr
   ·have hq:IntKind.i64.wrap ((i:Int).tdiv 16)=0:=by rw[Int.tdiv_eq_ediv_of_nonneg (by omega),wrap_in (by simp only[InK];omega)];omega
    obtain⟨g,hg⟩:∃ g,g=md5G 0 i:=⟨_,rfl⟩
    have hglt:g<16:=hg▸zfx 0 i
    have hg1:((i:Int):Int).tmod 16=(g:Int):=by rw[hg,Int.tmod_eq_emod_of_nonneg (by omega)];simp only[md5G];omega
    have hg2:(g:Int).tmod 16=(g:Int):=by rw[Int.tmod_eq_emod_of_nonneg (by omega)];omega
    have hw:=hw' g hglt
    have hR:=hR' 0 (by decide)
    have hR1:=zgQ (4*0+i % 4) (by omega)
    generalize htt:md5T.getD i 0=tt at hT
    generalize hrr:md5R.getD (4*0+i % 4) 0=rr at hR hR1
    generalize hww:zca l (4*g)=ww at hw
    repeat' (first|refine qU ?_|((first|apply dX rfl|apply Da rfl rfl|apply Db rfl rfl qN);(focus ((try intro hg);first|exact zaw (ziG rfl rfl (by decide)) hq|exact zaw (zcw rfl rfl (by decide)) hg1|exact zaw (zcw rfl rfl (by decide)) hg2|exact zaw (zcw rfl rfl (by decide)) hm|exact zdW rfl|exact zbV rfl rfl (by omega) (by omega)|exact zaI rfl rfl hw|exact zaI rfl rfl hT|exact zaI rfl rfl hR|exact zac (zfa _ _ hR1.1 hR1.2) rfl|exact zab (zam rfl rfl) (decide_eq_true (by omega:(i:Int)<64))|exact qM));constructor)|refine qP ?_)
    refine zaa (i+1,d,IntKind.u32.wrap (b+rot (IntKind.u32.wrap (IntKind.u32.wrap (IntKind.u32.wrap (a+md5F 0 b c d)+tt)+ww)) rr),b,c) ⟨hlt,?_⟩ (by simp only;omega) (Wk_g some rfl rfl kq)
    simp only
    rw[zby,←hv,zdZ,hr,Nat.zero_add,←hg,hww,htt,hrr]
   ·have hq:IntKind.i64.wrap ((i:Int).tdiv 16)=1:=by rw[Int.tdiv_eq_ediv_of_nonneg (by omega),wrap_in (by simp only[InK];omega)];omega
    obtain⟨g,hg⟩:∃ g,g=md5G 1 i:=⟨_,rfl⟩
    have hglt:g<16:=hg▸zfx 1 i
    have hg1:(5*(i:Int)+1:Int).tmod 16=(g:Int):=by rw[hg,Int.tmod_eq_emod_of_nonneg (by omega)];simp only[md5G];omega
    have hg2:(g:Int).tmod 16=(g:Int):=by rw[Int.tmod_eq_emod_of_nonneg (by omega)];omega
    have hw:=hw' g hglt
    have hR:=hR' 1 (by decide)
    have hR1:=zgQ (4*1+i % 4) (by omega)
    generalize htt:md5T.getD i 0=tt at hT
    generalize hrr:md5R.getD (4*1+i % 4) 0=rr at hR hR1
    generalize hww:zca l (4*g)=ww at hw
    repeat' (first|refine qU ?_|((first|apply dX rfl|apply Da rfl rfl|apply Db rfl rfl qN);(focus ((try intro hg);first|exact zaw (ziG rfl rfl (by decide)) hq|exact zaw (zcw rfl rfl (by decide)) hg1|exact zaw (zcw rfl rfl (by decide)) hg2|exact zaw (zcw rfl rfl (by decide)) hm|exact zdW rfl|exact zbV rfl rfl (by omega) (by omega)|exact zaI rfl rfl hw|exact zaI rfl rfl hT|exact zaI rfl rfl hR|exact zac (zfa _ _ hR1.1 hR1.2) rfl|exact zab (zam rfl rfl) (decide_eq_true (by omega:(i:Int)<64))|exact qM));constructor)|refine qP ?_)
    refine zaa (i+1,d,IntKind.u32.wrap (b+rot (IntKind.u32.wrap (IntKind.u32.wrap (IntKind.u32.wrap (a+md5F 1 b c d)+tt)+ww)) rr),b,c) ⟨hlt,?_⟩ (by simp only;omega) (Wk_g some rfl rfl kq)
    simp only
    rw[zby,←hv,zdZ,hr,Nat.zero_add,←hg,hww,htt,hrr]
   ·have hq:IntKind.i64.wrap ((i:Int).tdiv 16)=2:=by rw[Int.tdiv_eq_ediv_of_nonneg (by omega),wrap_in (by simp only[InK];omega)];omega
    obtain⟨g,hg⟩:∃ g,g=md5G 2 i:=⟨_,rfl⟩
    have hglt:g<16:=hg▸zfx 2 i
    have hg1:(3*(i:Int)+5:Int).tmod 16=(g:Int):=by rw[hg,Int.tmod_eq_emod_of_nonneg (by omega)];simp only[md5G];omega
    have hg2:(g:Int).tmod 16=(g:Int):=by rw[Int.tmod_eq_emod_of_nonneg (by omega)];omega
    have hw:=hw' g hglt
    have hR:=hR' 2 (by decide)
    have hR1:=zgQ (4*2+i % 4) (by omega)
    generalize htt:md5T.getD i 0=tt at hT
    generalize hrr:md5R.getD (4*2+i % 4) 0=rr at hR hR1
    generalize hww:zca l (4*g)=ww at hw
    repeat' (first|refine qU ?_|((first|apply dX rfl|apply Da rfl rfl|apply Db rfl rfl qN);(focus ((try intro hg);first|exact zaw (ziG rfl rfl (by decide)) hq|exact zaw (zcw rfl rfl (by decide)) hg1|exact zaw (zcw rfl rfl (by decide)) hg2|exact zaw (zcw rfl rfl (by decide)) hm|exact zdW rfl|exact zbV rfl rfl (by omega) (by omega)|exact zaI rfl rfl hw|exact zaI rfl rfl hT|exact zaI rfl rfl hR|exact zac (zfa _ _ hR1.1 hR1.2) rfl|exact zab (zam rfl rfl) (decide_eq_true (by omega:(i:Int)<64))|exact qM));constructor)|refine qP ?_)
    refine zaa (i+1,d,IntKind.u32.wrap (b+rot (IntKind.u32.wrap (IntKind.u32.wrap (IntKind.u32.wrap (a+md5F 2 b c d)+tt)+ww)) rr),b,c) ⟨hlt,?_⟩ (by simp only;omega) (Wk_g some rfl rfl kq)
    simp only
    rw[zby,←hv,zdZ,hr,Nat.zero_add,←hg,hww,htt,hrr]
   ·have hq:IntKind.i64.wrap ((i:Int).tdiv 16)=3:=by rw[Int.tdiv_eq_ediv_of_nonneg (by omega),wrap_in (by simp only[InK];omega)];omega
    obtain⟨g,hg⟩:∃ g,g=md5G 3 i:=⟨_,rfl⟩
    have hglt:g<16:=hg▸zfx 3 i
    have hg1:(7*(i:Int):Int).tmod 16=(g:Int):=by rw[hg,Int.tmod_eq_emod_of_nonneg (by omega)];simp only[md5G];omega
    have hg2:(g:Int).tmod 16=(g:Int):=by rw[Int.tmod_eq_emod_of_nonneg (by omega)];omega
    have hw:=hw' g hglt
    have hR:=hR' 3 (by decide)
    have hR1:=zgQ (4*3+i % 4) (by omega)
    generalize htt:md5T.getD i 0=tt at hT
    generalize hrr:md5R.getD (4*3+i % 4) 0=rr at hR hR1
    generalize hww:zca l (4*g)=ww at hw
    repeat' (first|refine qU ?_|((first|apply dX rfl|apply Da rfl rfl|apply Db rfl rfl qN);(focus ((try intro hg);first|exact zaw (ziG rfl rfl (by decide)) hq|exact zaw (zcw rfl rfl (by decide)) hg1|exact zaw (zcw rfl rfl (by decide)) hg2|exact zaw (zcw rfl rfl (by decide)) hm|exact zdW rfl|exact zbV rfl rfl (by omega) (by omega)|exact zaI rfl rfl hw|exact zaI rfl rfl hT|exact zaI rfl rfl hR|exact zac (zfa _ _ hR1.1 hR1.2) rfl|exact zab (zam rfl rfl) (decide_eq_true (by omega:(i:Int)<64))|exact qM));constructor)|refine qP ?_)
    refine zaa (i+1,d,IntKind.u32.wrap (b+rot (IntKind.u32.wrap (IntKind.u32.wrap (IntKind.u32.wrap (a+md5F 3 b c d)+tt)+ww)) rr),b,c) ⟨hlt,?_⟩ (by simp only;omega) (Wk_g some rfl rfl kq)
    simp only
    rw[zby,←hv,zdZ,hr,Nat.zero_add,←hg,hww,htt,hrr]
  ·have hi64:i=64:=by omega
   subst hi64
   repeat' (first|refine zdB ?_|refine zcS ?_|refine qU ?_|((first|apply dX rfl|apply Da rfl rfl|apply Db rfl rfl qN);(focus ((try intro hg);first|exact zab (zam rfl rfl) (decide_eq_false (by omega:¬((64:Nat):Int)<64))|exact S_al rfl|exact S_bx rfl rfl|exact zbg rfl rfl rfl rfl rfl rfl|exact zaF 2001 rfl|exact zaF 2002 rfl|exact zaF 2003 rfl|exact zaF 2004 rfl|exact zaF 2005 rfl|(apply Pu.ok;repeat' (first|rfl|exact .inK (by simp only[InK];omega)|exact .wr|constructor|decide|omega))));constructor)|refine qP ?_)
   refine retN (.cellA inferInstance rfl rfl rfl rfl (.inl rfl) .nil) ?_
   unfold zbG
   rw[←hv]
   rfl
end Go.Proofs.YtcdhlofhhcgohaaGreat
namespace Go.Proofs.YtcdhlofhhcgohaaGreat
open Go.RowKit
theorem zgR {n:Int} (h0:0≤n):((zay n 0).toNat:Int)=n % 256:=by
 rw[ze8 h0];simp
end Go.Proofs.YtcdhlofhhcgohaaGreat
namespace Go.Proofs.YtcdhlofhhcgohaaGreat
open Go.RowKit
theorem zdD {q:List UInt8} {p j:Nat} (hj:j<64):zi3 ((q.drop p).take 64) j=zi3 q (p+j):=by
 unfold zi3
 rw[List.getD_eq_getElem?_getD,List.getD_eq_getElem?_getD,List.getElem?_take,if_pos hj,List.getElem?_drop]
theorem zkh {q:List UInt8} {p j:Nat} (hj:j+3<64):zca ((q.drop p).take 64) (0+j)=zca q (p+j):=by
 unfold zca
 rw[Nat.zero_add,zdD (by omega),zdD (by omega),zdD (by omega),zdD (by omega)]
 simp only[Nat.add_assoc]
theorem zgS {q:List UInt8} {p:Nat} {v:St4}:∀ i,zby ((q.drop p).take 64) 0 i v=zby q p i v
 | 0=>rfl
 | i+1=>by
  have:=zfx (i / 16) i
  rw[zby,zby,zgS i,zdZ,zdZ,zkh (by omega)]
theorem zlv {q:List UInt8} {p:Nat} {v:St4}:zbG ((q.drop p).take 64) 0 v=zbG q p v:=by
 unfold zbG;rw[zgS]
def St4.ok (v:St4):Prop:=0≤v.1∧0≤v.2.1∧0≤v.2.2.1∧0≤v.2.2.2
theorem zki (q:List UInt8):∀ k,St4.ok (zbs q k zi4)
 | 0=>by rw[zbs];refine⟨?_,?_,?_,?_⟩<;>decide
 | k+1=>by
  rw[zbs,zbG,add4]
  simp only[St4.ok,wrap_u32]
  omega
theorem le_b {x:Int} (h:0≤x):IntKind.u8.wrap x=((zay x 0).toNat:Int)∧IntKind.u8.wrap (IntKind.u32.shrI x 8)=((zay x 1).toNat:Int)∧IntKind.u8.wrap (IntKind.u32.shrI x 16)=((zay x 2).toNat:Int)∧IntKind.u8.wrap (IntKind.u32.shrI x 24)=((zay x 3).toNat:Int):=by
 have hb:IntKind.u32.bits=32:=rfl
 have key:∀ k:Nat,k≤3→IntKind.u8.wrap (IntKind.u32.shrI x ((8*k:Nat):Int))=((zay x k).toNat:Int):=fun k hk=>by
  unfold IntKind.shrI
  rw[hb,wrap_u8,ze8 h,Int.toNat_natCast,Nat.min_eq_left (by omega),Int.fdiv_eq_ediv_of_nonneg _ (Int.pow_nonneg (by decide))]
 refine⟨?_,key 1 (by decide),key 2 (by decide),key 3 (by decide)⟩
 rw[wrap_u8,ze8 h];simp
def zb2 (n:Nat):Nat:=(119-n % 64) % 64
theorem zgT (b:List UInt8):zdb b=b++[128]++List.replicate (zb2 b.length) 0++leBytes (8*b.length) 8:=rfl
theorem zh5 (b:List UInt8):(zdb b).length=b.length+9+zb2 b.length∧(zdb b).length % 64=0:=by
 have e:(zdb b).length=b.length+9+zb2 b.length:=by
  rw[zgT];simp[zcU];omega
 refine⟨e,?_⟩
 rw[e];unfold zb2;omega
attribute [local irreducible] SStep DW DWin DOps zaG zaE zaJ retQ zaN FnF FnG Wk IntKind.wrap IntKind.andI IntKind.orI IntKind.xorI IntKind.andNotI IntKind.shlI IntKind.shrI rot zca zay zbG
set_option maxRecDepth 10000 in
set_option maxHeartbeats 4000000 in
theorem zoQ (b:List UInt8) (hb:b.length≤4194304):FnG Tryz.prog 128 [.dat false (.slice (b.map zak))] [] (.own 1000 0 0 16) [(1000,.row 0 false true 1 ((md5S b).map zak))]:=by
 have hml:(b.map zak).length=b.length:=by simp
 obtain⟨hql,hq64⟩:=zh5 b
 have hz:zb2 b.length<64:=by unfold zb2;omega
 have hS:md5S b=zmA (zbs (zdb b) ((zdb b).length / 64) zi4):=rfl
 rw[hS]
 have hok:=zki (zdb b)
 obtain⟨q,hq⟩:∃ q,q=zdb b:=⟨_,rfl⟩
 rw[←hq]at hql hq64 hok ⊢
 refine zbj Tryz.func128 rfl rfl rfl ?_
 simp only[envD]
 repeat' (first|refine qU ?_|(apply dt rfl;case h=>first|exact zaB _ (zeN b (by omega)) rfl rfl (.own _ _))|((first|apply dX rfl|apply Da rfl rfl|apply Db rfl rfl qN);(focus ((try intro hg);first|exact zaB _ (zeN b (by omega)) rfl rfl (.own _ _)|exact zan (f:=zak) (us:=b) (bs := [128]) rfl rfl (.dat _ _) rfl rfl (.inr ⟨rfl,inferInstance⟩) rfl (by simp only[List.length_cons,List.length_nil];omega)|exact qM));constructor)|refine qP ?_)
 refine zag (fun p:Nat×List UInt8=>⟨[(0,.dat false (.slice (b.map zak))),(3,.own 10 0 0 p.2.length)],[(10,.row 0 false true 1 (p.2.map zak))],64⟩)
  (fun p=>p.1≤zb2 b.length∧p.2=b++[128]++List.replicate p.1 0) (fun p=>zb2 b.length-p.1) (0,b++[128]) ⟨Nat.zero_le _,by simp⟩
  (Wk_g some rfl rfl kq) (fun p hR=>?_)
 obtain⟨z,m⟩:=p
 obtain⟨hz1,hm⟩:=hR
 simp only at hz1 hm
 dsimp only
 have hmlen:m.length=b.length+1+z:=by rw[hm];simp;omega
 have hrem:((m.length:Nat):Int).tmod 64=((m.length % 64:Nat):Int):=by rw[Int.tmod_eq_emod_of_nonneg (by omega)];omega
 by_cases hlt:z<zb2 b.length
 ·have hne:decide (((m.length % 64:Nat):Int)≠56)=true:=decide_eq_true (by unfold zb2 at hlt;omega)
  repeat' (first|refine qU ?_|((first|apply dX rfl|apply Da rfl rfl|apply Db rfl rfl qN);(focus ((try intro hg);first|exact zaw (zcw rfl rfl (by decide)) hrem|exact zab (za1 rfl rfl) hne|exact zan (f:=zak) (us:=m) (bs := [0]) rfl rfl (.dat _ _) rfl rfl (.inr ⟨rfl,inferInstance⟩) rfl (by simp only[List.length_cons,List.length_nil];omega)|exact qM));constructor)|refine qP ?_)
  refine zaa (z+1,m++[0]) ⟨hlt,?_⟩ (by simp only;omega) (Wk_g some rfl rfl kq)
  simp only
  rw[hm,List.replicate_succ',←List.append_assoc]
 ·have hze:z=zb2 b.length:=by omega
  have hne:decide (((m.length % 64:Nat):Int)≠56)=false:=decide_eq_false (by unfold zb2 at hze;omega)
  have h8:((b.map zak).length:Int)*8=8*b.length:=by omega
  obtain⟨n,hn⟩:∃ n:Int,n=8*b.length:=⟨_,rfl⟩
  have hn0:0≤n:=by omega
  have h8':=h8.trans hn.symm
  repeat' (first|refine qU ?_|((first|apply dX rfl|apply Da rfl rfl|apply Db rfl rfl qN);(focus ((try intro hg);first|exact zaw (zcw rfl rfl (by decide)) hrem|exact zab (za1 rfl rfl) hne|exact zaw (ztz rfl rfl (by simp only[InK];omega)) h8'|exact qM));constructor)|refine qP ?_)
  refine zag (fun p:Nat×List UInt8=>⟨[(3,.own 10 0 0 p.2.length),(4,.dat true (.int .u64 (n / 256 ^ p.1))),(24,.dat true (.int .i64 p.1))],[(10,.row 0 false true 1 (p.2.map zak))],64⟩)
   (fun p=>p.1≤8∧p.2=m++leBytes n p.1) (fun p=>8-p.1) (0,m) ⟨Nat.zero_le _,by simp[leBytes]⟩
   (zfR some rfl rfl (by simp only[Int.pow_zero,Int.ediv_one];(repeat' (first|exact trivial|rfl|exact zas _|exact⟨_,rfl,.inl rfl⟩|exact⟨_,rfl,.inr (.inl rfl)⟩|exact⟨_,rfl,.inr (.inr rfl)⟩|refine⟨_,_,rfl,rfl,?_⟩|exact⟨_,rfl,rfl⟩|exact⟨_,_,_,_,rfl,rfl,rfl⟩|exact⟨_,rfl⟩|exact⟨_,_,rfl⟩|apply And.intro))) (by simp only[Int.pow_zero,Int.ediv_one];(repeat' (first|exact trivial|rfl|exact zas _|exact⟨_,rfl,.inl rfl⟩|exact⟨_,rfl,.inr (.inl rfl)⟩|exact⟨_,rfl,.inr (.inr rfl)⟩|refine⟨_,_,rfl,rfl,?_⟩|exact⟨_,rfl,rfl⟩|exact⟨_,_,_,_,rfl,rfl,rfl⟩|exact⟨_,rfl⟩|exact⟨_,_,rfl⟩|apply And.intro)))) (fun p hR=>?_)
  obtain⟨j,w⟩:=p
  obtain⟨hj,hw⟩:=hR
  simp only at hj hw
  dsimp only
  have hwl:w.length=m.length+j:=by rw[hw];simp[zcU]
  have hp:(0:Int)<256 ^ j:=Int.pow_pos (by decide)
  have hd0:0≤n / 256 ^ j:=Int.ediv_nonneg hn0 (Int.le_of_lt hp)
  by_cases hlt:j<8
  ·have hb1:IntKind.u8.wrap (n / 256 ^ j)=((zay n j).toNat:Int):=by
    rw[←zi2 n hn0,zgR hd0,wrap_u8]
   have hs1:IntKind.u64.shrI (n / 256 ^ j) 8=n / 256 ^ (j+1):=by
    unfold IntKind.shrI
    have e:(2:Int) ^ (min (8:Int).toNat IntKind.u64.bits)=256:=by decide
    rw[e,Int.fdiv_eq_ediv_of_nonneg _ (by decide),Int.ediv_ediv_of_nonneg (Int.le_of_lt hp),Int.pow_succ]
   repeat' (first|refine qU ?_|((first|apply dX rfl|apply Da rfl rfl|apply Db rfl rfl qN);(focus ((try intro hg);first|exact zab (zam rfl rfl) (decide_eq_true (by omega:(j:Int)<8))|exact zaH rfl hb1|exact zaw (zeD rfl rfl (by decide)) hs1|exact zan (f:=zak) (us:=w) (bs := [zay n j]) rfl rfl (.dat _ _) rfl rfl (.inr ⟨rfl,inferInstance⟩) rfl (by simp only[List.length_cons,List.length_nil];omega)|exact qM));constructor)|refine qP ?_)
   refine zaa (j+1,w++[zay n j]) ⟨hlt,?_⟩ (by simp only;omega) (Wk_g some rfl rfl kq)
   simp only
   rw[hw,leBytes,←List.append_assoc]
  ·have hwq:w=q:=by
    rw[hq,zgT,hw,hm,hze,hn,show j=8 by omega]
   subst hwq
   repeat' (first|refine qU ?_|((first|apply dX rfl|apply Da rfl rfl|apply Db rfl rfl qN);(focus ((try intro hg);first|exact zab (zam rfl rfl) (decide_eq_false (by omega:¬(j:Int)<8))|exact qM));constructor)|refine qP ?_)
   obtain⟨K,hK⟩:∃ K,w.length=64*K:=⟨w.length / 64,by omega⟩
   have hKd:w.length / 64=K:=by omega
   rw[hKd]
   refine zaR 3 rfl rfl (by simp) ?_
   refine zag (fun p:Nat×List UInt8×St4=>⟨[(3,.dat true (.slice (p.2.1.map zak))),(5,.ptr 5 0)],[(5,.cells false true (st4D p.2.2))],64⟩)
    (fun p=>p.1≤K∧p.2.1=w.drop (64*p.1)∧p.2.2=zbs w p.1 zi4) (fun p=>K-p.1) (0,w,zi4) ⟨Nat.zero_le _,rfl,rfl⟩
    (Wk_g some rfl rfl kq) (fun p hR=>?_)
   obtain⟨k,r,v⟩:=p
   obtain⟨hk,hr,hv⟩:=hR
   simp only at hk hr hv
   dsimp only
   have hrl:r.length=64*(K-k):=by rw[hr];simp;omega
   have hrm:(r.map zak).length=r.length:=by simp
   by_cases hlt:k<K
   ·have hcl:(r.take 64).length=64:=by simp;omega
    have hst:zbG (r.take 64) 0 v=zbs w (k+1) zi4:=by rw[zbs,←hv,hr,zlv]
    have hd:r.drop 64=w.drop (64*(k+1)):=by rw[hr,List.drop_drop,show 64*k+64=64*(k+1) by omega]
    obtain⟨ch,hch⟩:∃ ch,ch=r.take 64:=⟨_,rfl⟩
    rw[←hch]at hcl hst
    have hgt:decide ((0:Int)<((r.map zak).length:Int))=true:=decide_eq_true (by omega)
    repeat' (first|refine qU ?_|((first|apply dX rfl|apply Da rfl rfl|apply Db rfl rfl qN);(focus ((try intro hg);first|exact zab (zbr rfl rfl) hgt|exact zoE (us:=r) ch rfl (.none _) (.some _ _ _ _ 64 rfl) (by omega) (by omega) hch.symm|exact zoE (us:=r) (r.drop 64) rfl (.some _ _ _ _ 64 rfl) (.none _) (by omega) (by omega) zsH|exact zac (zoP v ch hcl) rfl|exact qM));constructor)|refine qP ?_)
    refine zaa (k+1,r.drop 64,zbG ch 0 v) ⟨hlt,hd,hst⟩ (by simp only;omega) (Wk_g some rfl rfl kq)
   ·have hkK:k=K:=by omega
    subst hkK
    rw[←hv]
    have hvok:=hok k
    rw[←hv]at hvok
    obtain⟨a,b',c,d⟩:=v
    obtain⟨v1,v2,v3,v4⟩:=hvok
    simp only at v1 v2 v3 v4
    obtain⟨a0,a1,a2,a3⟩:=le_b v1
    obtain⟨b0,b1,b2,b3⟩:=le_b v2
    obtain⟨c0,c1,c2,c3⟩:=le_b v3
    obtain⟨d0,d1,d2,d3⟩:=le_b v4
    have hgt:decide ((0:Int)<((r.map zak).length:Int))=false:=decide_eq_false (by omega)
    repeat' (first|refine zdB ?_|refine zcS ?_|refine qU ?_|(apply dt rfl;case h=>first|exact zlr _ (f:=zak) (nf:=true) (bs := [zay a 0,zay a 1,zay a 2,zay a 3]) rfl (.dat _ _) rfl (.inr inferInstance) rfl (by simp only[List.length_cons,List.length_nil];omega) rfl)|((first|apply dX rfl|apply Da rfl rfl|apply Db rfl rfl qN);(focus ((try intro hg);first|exact zab (zbr rfl rfl) hgt|exact zaH rfl a0|exact zaH rfl a1|exact zaH rfl a2|exact zaH rfl a3|exact zaH rfl b0|exact zaH rfl b1|exact zaH rfl b2|exact zaH rfl b3|exact zaH rfl c0|exact zaH rfl c1|exact zaH rfl c2|exact zaH rfl c3|exact zaH rfl d0|exact zaH rfl d1|exact zaH rfl d2|exact zaH rfl d3|exact zeD rfl rfl (by decide)|exact zlr _ (f:=zak) (nf:=true) (bs := [zay a 0,zay a 1,zay a 2,zay a 3]) rfl (.dat _ _) rfl (.inr inferInstance) rfl (by simp only[List.length_cons,List.length_nil];omega) rfl|exact zan (f:=zak) (bs := [zay b' 0,zay b' 1,zay b' 2,zay b' 3]) rfl rfl (.dat _ _) rfl rfl (.inr ⟨rfl,inferInstance⟩) rfl (by simp only[List.length_append,List.length_cons,List.length_nil];omega)|exact zan (f:=zak) (bs := [zay c 0,zay c 1,zay c 2,zay c 3]) rfl rfl (.dat _ _) rfl rfl (.inr ⟨rfl,inferInstance⟩) rfl (by simp only[List.length_append,List.length_cons,List.length_nil];omega)|exact zan (f:=zak) (bs := [zay d 0,zay d 1,zay d 2,zay d 3]) rfl rfl (.dat _ _) rfl rfl (.inr ⟨rfl,inferInstance⟩) rfl (by simp only[List.length_append,List.length_cons,List.length_nil];omega)|exact S_al rfl|exact S_bx rfl rfl|exact zbg rfl rfl rfl rfl rfl rfl|exact zaF 2001 rfl|exact zaF 2002 rfl|exact zaF 2003 rfl|exact zaF 2004 rfl|exact zaF 2005 rfl|(apply Pu.ok;repeat' (first|rfl|exact .inK (by simp only[InK];omega)|exact .wr|constructor|decide|omega))));constructor)|refine qP ?_)
    exact gOwn (Wk_g (fun g=>if g=1000 then some 61 else none) rfl rfl kq)
end Go.Proofs.YtcdhlofhhcgohaaGreat
namespace Go.Proofs.YtcdhlofhhcgohaaGreat
open Go.RowKit
section
variable {P : Program} {e : Operand → D} {m : Mem} {dst : Option Tmp} {ty : TypeId} {pos : String} {af : Array Edge} {gd : Option (Nat × Bool)} {x y : Operand} {t : TypeId}
theorem zkj {us:List UInt8} {c:UInt8} {g ver len by_ el:Nat} {agg n nw:Bool} {zs:List V} [hu:SlcI P t el] [ht:TyI P el agg 1 by_ zs] (h1:e x = .own g ver 0 len) (hmg:m.at g = .row ver false nw 1 (us.map zak)) (h2:AppR m 1 (e y) n [[V.int .u8 (c.toNat:Int)]])
  (hlx:len=us.length) (hb:(us.length+1)*(by_+1)≤140737488355328) :
  SStep P ⟨dst,.call { callee := .builtin .append,args := #[x,y],argTypes := #[t,t] },ty,pos,af,gd⟩ e m (g::refs0 (e y)) (.own g (ver+1) 0 (us++[c]).length) [(g,.row (ver+1) false nw 1 ((us++[c]).map zak))] :=
 zan (f:=zak) (us:=us) (bs := [c]) h1 hmg h2 rfl hlx (.inr ⟨rfl,inferInstance⟩) rfl hb
theorem zoR {c:UInt8} {by_ el:Nat} {agg n:Bool} {zs:List V} (g:Nat) [hu:SlcI P t el] [ht:TyI P el agg 1 by_ zs] (h1:e x = .nil) (h2:AppR m 1 (e y) n [[V.int .u8 (c.toNat:Int)]]) (hb:1*(by_+1)≤140737488355328) (hg:m.at g = .gone) :
  SStep P ⟨dst,.call { callee := .builtin .append,args := #[x,y],argTypes := #[t,t] },ty,pos,af,gd⟩ e m (refs0 (e y)) (.own g 1 0 [c].length) [(g,.row 1 false true 1 ([c].map zak))] :=
 zlr g (f:=zak) (nf:=true) (bs := [c]) h1 h2 rfl (.inr inferInstance) rfl hb hg
end
theorem zng {r k:Nat} (hr:r<4):md5G r (16*r+k)=md5G r k:=by
 rcases (by omega:r=0∨r=1∨r=2∨r=3)with rfl|rfl|rfl|rfl<;>simp only[md5G]<;>omega
theorem ztX : (∀ j,j<4→([7,12,17,22]:List Int)[j]? = some (md5R.getD (4*0+j) 0))∧(∀ j,j<4→([5,9,14,20]:List Int)[j]? = some (md5R.getD (4*1+j) 0)) ∧
  (∀ j,j<4→([4,11,16,23]:List Int)[j]? = some (md5R.getD (4*2+j) 0))∧(∀ j,j<4→([6,10,15,21]:List Int)[j]? = some (md5R.getD (4*3+j) 0)):=by decide
theorem zqT {x:Int} (h:0≤x):IntKind.u8.wrap (IntKind.u32.shrI x 0)=((zay x 0).toNat:Int):=by
 have:IntKind.u32.shrI x 0=x:=by unfold IntKind.shrI;simp
 rw[this];exact(le_b h).1
theorem getT {k:Nat} (h:k<64):md5T[k]? = some (md5T.getD k 0):=by
 have:md5T.length=64:=rfl
 rw[List.getElem?_eq_getElem (by omega),List.getD_eq_getElem?_getD,List.getElem?_eq_getElem (by omega)];rfl
def ivL : List Int := [1732584193,4023233417,2562383102,271733878]
def stL (v:St4):List Int := [v.1,v.2.1,v.2.2.1,v.2.2.2]
attribute [local irreducible] SStep DW DWin DOps zaG zaE zaJ retQ zaN FnF FnG Wk IntKind.wrap IntKind.andI IntKind.orI IntKind.xorI IntKind.andNotI IntKind.shlI IntKind.shrI rot zca zay zbG
theorem znh (r k:Nat) (hr:r<4) (hk:k<16) (b c d:Int):FnF Tryz.prog 184 [.int .i64 (r:Int),.int .i64 (k:Int),.int .u32 b,.int .u32 c,.int .u32 d]
  (.tuple [.int .u32 (md5F r b c d),.int .i64 (md5G r k:Nat),.int .i64 (md5R.getD (4*r+k % 4) 0)]):=by
 refine zal Tryz.func184 rfl rfl rfl ?_
 simp only[zap]
 have h4:(k:Int).tmod 4=((k % 4:Nat):Int):=by rw[Int.tmod_eq_emod_of_nonneg (by omega)];omega
 obtain⟨z0,z1,z2,z3⟩:=ztX
 rcases (by omega:r=0∨r=1∨r=2∨r=3)with rfl|rfl|rfl|rfl
 ·have hx:([7,12,17,22]:List Int)[((k % 4:Nat):Int).toNat]? = some (md5R.getD (4*0+k % 4) 0):=by rw[Int.toNat_natCast];exact z0 _ (by omega)
  generalize md5R.getD (4*0+k % 4) 0=rr at hx
  have hg:(md5G 0 k:Nat)=k:=by simp only[md5G];omega
  rw[hg]
  repeat' (first|refine qU ?_|((first|apply dX rfl|apply Da rfl rfl|apply Db rfl rfl qN);(focus ((try intro hg);first|exact zaw (zcw rfl rfl (by decide)) h4|exact zdW rfl|exact zaf (f:=intV) (us := [7,12,17,22]) rfl rfl (by omega) hx|exact qM));constructor)|refine qP ?_)
  exact retN (.tmp rfl (.inl rfl) (.tmp rfl (.inr (.int _ _)) (.tmp rfl (.inr (.int _ _)) .nil))) rfl
 ·have hx:([5,9,14,20]:List Int)[((k % 4:Nat):Int).toNat]? = some (md5R.getD (4*1+k % 4) 0):=by rw[Int.toNat_natCast];exact z1 _ (by omega)
  generalize md5R.getD (4*1+k % 4) 0=rr at hx
  have hg:(1+5*(k:Int)).tmod 16=((md5G 1 k:Nat):Int):=by rw[Int.tmod_eq_emod_of_nonneg (by omega)];simp only[md5G];omega
  repeat' (first|refine qU ?_|((first|apply dX rfl|apply Da rfl rfl|apply Db rfl rfl qN);(focus ((try intro hg);first|exact zaw (zcw rfl rfl (by decide)) h4|exact zaw (zcw rfl rfl (by decide)) hg|exact zdW rfl|exact zaf (f:=intV) (us := [5,9,14,20]) rfl rfl (by omega) hx|exact qM));constructor)|refine qP ?_)
  exact retN (.tmp rfl (.inl rfl) (.tmp rfl (.inr (.int _ _)) (.tmp rfl (.inr (.int _ _)) .nil))) rfl
 ·have hx:([4,11,16,23]:List Int)[((k % 4:Nat):Int).toNat]? = some (md5R.getD (4*2+k % 4) 0):=by rw[Int.toNat_natCast];exact z2 _ (by omega)
  generalize md5R.getD (4*2+k % 4) 0=rr at hx
  have hg:(5+3*(k:Int)).tmod 16=((md5G 2 k:Nat):Int):=by rw[Int.tmod_eq_emod_of_nonneg (by omega)];simp only[md5G];omega
  repeat' (first|refine qU ?_|((first|apply dX rfl|apply Da rfl rfl|apply Db rfl rfl qN);(focus ((try intro hg);first|exact zaw (zcw rfl rfl (by decide)) h4|exact zaw (zcw rfl rfl (by decide)) hg|exact zdW rfl|exact zaf (f:=intV) (us := [4,11,16,23]) rfl rfl (by omega) hx|exact qM));constructor)|refine qP ?_)
  exact retN (.tmp rfl (.inl rfl) (.tmp rfl (.inr (.int _ _)) (.tmp rfl (.inr (.int _ _)) .nil))) rfl
 ·have hx:([6,10,15,21]:List Int)[((k % 4:Nat):Int).toNat]? = some (md5R.getD (4*3+k % 4) 0):=by rw[Int.toNat_natCast];exact z3 _ (by omega)
  generalize md5R.getD (4*3+k % 4) 0=rr at hx
  have hg:(7*(k:Int)).tmod 16=((md5G 3 k:Nat):Int):=by rw[Int.tmod_eq_emod_of_nonneg (by omega)];simp only[md5G];omega
  repeat' (first|refine qU ?_|((first|apply dX rfl|apply Da rfl rfl|apply Db rfl rfl qN);(focus ((try intro hg);first|exact zaw (zcw rfl rfl (by decide)) h4|exact zaw (zcw rfl rfl (by decide)) hg|exact zdW rfl|exact zaf (f:=intV) (us := [6,10,15,21]) rfl rfl (by omega) hx|exact qM));constructor)|refine qP ?_)
  exact retN (.tmp rfl (.inl rfl) (.tmp rfl (.inr (.int _ _)) (.tmp rfl (.inr (.int _ _)) .nil))) rfl
end Go.Proofs.YtcdhlofhhcgohaaGreat
