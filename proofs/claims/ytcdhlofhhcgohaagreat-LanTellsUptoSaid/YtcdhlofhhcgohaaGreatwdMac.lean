/- HMAC: of the program, and of the document. -/
import Derived.Test.YtcdhlofhhcgohaaGreatwdMdr
namespace Go.Proofs.YtcdhlofhhcgohaaGreat
open Go.RowKit
attribute [local irreducible] SStep DW DWin DOps zaG zaE zaJ retQ zaN FnF FnG Wk IntKind.wrap IntKind.andI IntKind.orI IntKind.xorI IntKind.andNotI IntKind.shlI IntKind.shrI rot zca zay zbG md5F md5G
set_option maxRecDepth 10000 in
set_option maxHeartbeats 8000000 in
theorem zmB (b:List UInt8) (hb:b.length≤4194304):FnG Tryz.prog 149 [.dat false (.slice (b.map zak))] [] (.own 1000 0 0 16) [(1000,.row 0 false true 1 ((md5S b).map zak))]:=by
 have hml:(b.map zak).length=b.length:=by simp
 obtain⟨hql,hq64⟩:=zh5 b
 have hz:zb2 b.length<64:=by unfold zb2;omega
 have hS:md5S b=zmA (zbs (zdb b) ((zdb b).length / 64) zi4):=rfl
 rw[hS]
 have hok:=zki (zdb b)
 obtain⟨q,hq⟩:∃ q,q=zdb b:=⟨_,rfl⟩
 rw[←hq]at hql hq64 hok ⊢
 refine zbj Tryz.func149 rfl rfl rfl ?_
 simp only[envD]
 repeat' (first|(apply dt rfl;case h=>exact zb8 (els := []) _ rfl rfl rfl rfl rfl)|refine qU ?_|((first|apply dX rfl|apply Da rfl rfl|apply Db rfl rfl qN);(focus ((try intro hg);first|exact zan (f:=zak) (us := []) (bs:=b) rfl rfl (.dat _ _) rfl rfl (.inr ⟨rfl,inferInstance⟩) rfl (by simp only[List.length_nil];omega)|exact zan (f:=zak) (us:=b) (bs := [128]) rfl rfl (.dat _ _) rfl rfl (.inr ⟨rfl,inferInstance⟩) rfl (by simp only[List.length_cons,List.length_nil];omega)|exact qM));constructor)|refine qP ?_)
 refine zag (fun p:Nat×List UInt8=>⟨[(0,.dat false (.slice (b.map zak))),(3,.own 25 0 0 p.2.length)],[(25,.row 0 false true 1 (p.2.map zak))],178⟩)
  (fun p=>p.1≤zb2 b.length∧p.2=b++[128]++List.replicate p.1 0) (fun p=>zb2 b.length-p.1) (0,b++[128]) ⟨Nat.zero_le _,by simp⟩
  (Wk_g some rfl rfl kq) (fun p hR=>?_)
 obtain⟨z,m⟩:=p
 obtain⟨hz1,hm⟩:=hR
 simp only at hz1 hm
 dsimp only
 have hmlen:m.length=b.length+1+z:=by rw[hm];simp;omega
 have hrem:((m.length:Nat):Int).tmod 64=((m.length % 64:Nat):Int):=by rw[Int.tmod_eq_emod_of_nonneg (by omega)];omega
 by_cases hlt:z<zb2 b.length
 ·have hne:decide (((m.length % 64:Nat):Int)≠56)=true:=decide_eq_true (by unfold zb2 at hlt;omega)
  repeat' (first|refine qU ?_|((first|apply dX rfl|apply Da rfl rfl|apply Db rfl rfl qN);(focus ((try intro hg);first|exact zaw (zcw rfl rfl (by decide)) hrem|exact zab (za1 rfl rfl) hne|exact zan (f:=zak) (us:=m) (bs := [0]) rfl rfl (.dat _ _) rfl rfl (.inr ⟨rfl,inferInstance⟩) rfl (by simp only[List.length_cons,List.length_nil];omega)|exact qM));constructor)|refine qP ?_)
  refine zaa (z+1,m++[0]) ⟨hlt,?_⟩ (by simp only;omega) (Wk_g some rfl rfl kq)
  simp only
  rw[hm,List.replicate_succ',←List.append_assoc]
 ·have hze:z=zb2 b.length:=by omega
  have hne:decide (((m.length % 64:Nat):Int)≠56)=false:=decide_eq_false (by unfold zb2 at hze;omega)
  have h8:8*((b.map zak).length:Int)=8*b.length:=by omega
  obtain⟨n,hn⟩:∃ n:Int,n=8*b.length:=⟨_,rfl⟩
  have hn0:0≤n:=by omega
  have h8':=h8.trans hn.symm
  repeat' (first|refine qU ?_|((first|apply dX rfl|apply Da rfl rfl|apply Db rfl rfl qN);(focus ((try intro hg);first|exact zaw (zcw rfl rfl (by decide)) hrem|exact zab (za1 rfl rfl) hne|exact zaw (ztz rfl rfl (by simp only[InK];omega)) h8'|exact qM));constructor)|refine qP ?_)
  refine zag (fun p:Nat×List UInt8=>⟨[(3,.own 25 0 0 p.2.length),(4,.dat true (.int .u64 n)),(5,.dat true (.int .i64 p.1))],[(25,.row 0 false true 1 (p.2.map zak))],178⟩)
   (fun p=>p.1≤8∧p.2=m++leBytes n p.1) (fun p=>8-p.1) (0,m) ⟨Nat.zero_le _,by simp[leBytes]⟩
   (Wk_g some rfl rfl kq) (fun p hR=>?_)
  obtain⟨j,w⟩:=p
  obtain⟨hj,hw⟩:=hR
  simp only at hj hw
  dsimp only
  have hwl:w.length=m.length+j:=by rw[hw];simp[zcU]
  by_cases hlt:j<8
  ·have hb1:IntKind.u8.wrap (IntKind.u64.shrI n (8*(j:Int)))=((zay n j).toNat:Int):=by
    unfold IntKind.shrI
    have hb:IntKind.u64.bits=64:=rfl
    rw[hb,wrap_u8,ze8 hn0,Int.fdiv_eq_ediv_of_nonneg _ (Int.pow_nonneg (by decide))]
    congr 3
    omega
   repeat' (first|refine qU ?_|((first|apply dX rfl|apply Da rfl rfl|apply Db rfl rfl qN);(focus ((try intro hg);first|exact zab (zam rfl rfl) (decide_eq_true (by omega:(j:Int)<8))|exact zaH rfl hb1|exact zeD rfl rfl (by omega)|exact zan (f:=zak) (us:=w) (bs := [zay n j]) rfl rfl (.dat _ _) rfl rfl (.inr ⟨rfl,inferInstance⟩) rfl (by simp only[List.length_cons,List.length_nil];omega)|exact qM));constructor)|refine qP ?_)
   refine zaa (j+1,w++[zay n j]) ⟨hlt,?_⟩ (by simp only;omega) (Wk_g some rfl rfl kq)
   simp only
   rw[hw,leBytes,←List.append_assoc]
  ·have hwq:w=q:=by
    rw[hq,zgT,hw,hm,hze,hn,show j=8 by omega]
   subst hwq
   repeat' (first|(apply dt rfl;case h=>exact zb8 (els:=ivL.map u32V) _ rfl rfl rfl rfl rfl)|refine qU ?_|((first|apply dX rfl|apply Da rfl rfl|apply Db rfl rfl qN);(focus ((try intro hg);first|exact zab (zam rfl rfl) (decide_eq_false (by omega:¬(j:Int)<8))|exact zac znf rfl|exact qM));constructor)|refine qP ?_)
   obtain⟨K,hK⟩:∃ K,w.length=64*K:=⟨w.length / 64,by omega⟩
   have hKd:w.length / 64=K:=by omega
   have hwm:(w.map zak).length=w.length:=by simp
   rw[hKd]
   refine zaR 3 rfl rfl (by simp) ?_
   refine zag (fun p:Nat×Int×St4=>⟨[(3,.dat true (.slice (w.map zak))),(6,.dat true (.slice (md5T.map u32V))),(7,.own 55 0 0 4),(8,.dat true (.int .i64 p.2.1))],[(55,.row 0 false true 1 ((stL p.2.2).map u32V))],178⟩)
    (fun p=>p.1≤K∧p.2.1=64*p.1∧p.2.2=zbs w p.1 zi4) (fun p=>K-p.1) (0,0,zi4) ⟨Nat.zero_le _,rfl,rfl⟩
    (Wk_g some rfl rfl kq) (fun p hR=>?_)
   obtain⟨k,at_,v⟩:=p
   obtain⟨hk,hat,hv⟩:=hR
   simp only at hk hat hv
   dsimp only
   subst hat
   by_cases hlt:k<K
   ·have hgt:decide ((64*(k:Int))<((w.map zak).length:Int))=true:=decide_eq_true (by omega)
    repeat' (first|refine qU ?_|((first|apply dX rfl|apply Da rfl rfl|apply Db rfl rfl qN);(focus ((try intro hg);first|exact zab (zam rfl rfl) hgt|exact zc7 rfl rfl rfl (by decide) (by decide)|exact qM));constructor)|refine qP ?_)
    refine zag (fun p:Nat×St4=>⟨[(3,.dat true (.slice (w.map zak))),(6,.dat true (.slice (md5T.map u32V))),(7,.own 55 0 0 4),(8,.dat true (.int .i64 (64*k))),(9,.dat true (.int .u32 p.2.1)),(10,.dat true (.int .u32 p.2.2.1)),(11,.dat true (.int .u32 p.2.2.2.1)),(12,.dat true (.int .u32 p.2.2.2.2)),(13,.dat true (.int .i64 p.1))],[(55,.row 0 false true 1 ((stL v).map u32V))],178⟩)
     (fun p=>p.1≤4∧p.2=zby w (64*k) (16*p.1) v) (fun p=>4-p.1) (0,v) ⟨Nat.zero_le _,rfl⟩
     (Wk_g some rfl rfl kq) (fun p hR=>?_)
    obtain⟨r,u⟩:=p
    obtain⟨hr,hu⟩:=hR
    simp only at hr hu
    dsimp only
    by_cases hr4:r<4
    ·repeat' (first|refine qU ?_|((first|apply dX rfl|apply Da rfl rfl|apply Db rfl rfl qN);(focus ((try intro hg);first|exact zab (zam rfl rfl) (decide_eq_true (by omega:(r:Int)<4))|exact qM));constructor)|refine qP ?_)
     refine zag (fun p:Nat×St4=>⟨[(3,.dat true (.slice (w.map zak))),(6,.dat true (.slice (md5T.map u32V))),(7,.own 55 0 0 4),(8,.dat true (.int .i64 (64*k))),(9,.dat true (.int .u32 p.2.1)),(10,.dat true (.int .u32 p.2.2.1)),(11,.dat true (.int .u32 p.2.2.2.1)),(12,.dat true (.int .u32 p.2.2.2.2)),(13,.dat true (.int .i64 r)),(14,.dat true (.int .i64 p.1))],[(55,.row 0 false true 1 ((stL v).map u32V))],178⟩)
      (fun p=>p.1≤16∧p.2=zby w (64*k) (16*r+p.1) v) (fun p=>16-p.1) (0,u) ⟨Nat.zero_le _,hu⟩
      (Wk_g some rfl rfl kq) (fun p hR=>?_)
     obtain⟨kk,a,b',c,d⟩:=p
     obtain⟨hkk,hw4⟩:=hR
     simp only at hkk hw4
     dsimp only
     by_cases hk16:kk<16
     ·have hi:(16*r+kk) / 16=r:=by omega
      have hi2:(16*r+kk) % 16=kk:=by omega
      have hR0:=znh r kk hr4 hk16 b' c d
      have hglt:=zfx r kk
      have hgs:=zng (r:=r) (k:=kk) hr4
      have hR1:=zgQ (4*r+kk % 4) (by omega)
      have hT:md5T[(16*(r:Int)+(kk:Int)).toNat]? = some (md5T.getD (16*r+kk) 0):=by
       rw[show(16*(r:Int)+(kk:Int)).toNat=16*r+kk by omega];exact getT (by omega)
      obtain⟨g,hg⟩:∃ g,g=md5G r kk:=⟨_,rfl⟩
      rw[←hg]at hR0 hglt
      obtain⟨c0,h0⟩:=zd0 (b:=w) (k:=64*k+4*g) (by omega)
      obtain⟨c1,h1⟩:=zd0 (b:=w) (k:=64*k+4*g+1) (by omega)
      obtain⟨c2,h2⟩:=zd0 (b:=w) (k:=64*k+4*g+2) (by omega)
      obtain⟨c3,h3⟩:=zd0 (b:=w) (k:=64*k+4*g+3) (by omega)
      have i3:w[(64*(k:Int)+4*(g:Int)+3).toNat]? = some c3:=by rw[←h3];congr 1
      have i2:w[(64*(k:Int)+4*(g:Int)+(3-1)).toNat]? = some c2:=by rw[←h2];congr 1
      have i1:w[(64*(k:Int)+4*(g:Int)+(3-1-1)).toNat]? = some c1:=by rw[←h1];congr 1
      have i0:w[(64*(k:Int)+4*(g:Int)+(3-1-1-1)).toNat]? = some c0:=by rw[←h0];congr 1
      have l0:=c0.toNat_lt
      have l1:=c1.toNat_lt
      have l2:=c2.toNat_lt
      have l3:=c3.toNat_lt
      have hword:256*(256*(256*(256*0+(c3.toNat:Int))+c2.toNat)+c1.toNat)+c0.toNat=zca w (64*k+4*g):=by
       unfold zca
       rw[getD_some h0,getD_some h1,getD_some h2,getD_some h3];omega
      generalize htt:md5T.getD (16*r+kk) 0=tt at hT
      generalize hrr:md5R.getD (4*r+kk % 4) 0=rr at hR0 hR1
      generalize hff:md5F r b' c d=ff at hR0
      generalize hww:zca w (64*k+4*g)=ww at hword
      repeat' (first|refine zdB ?_|refine zcS ?_|refine qU ?_|((first|apply dX rfl|apply Da rfl rfl|apply Db rfl rfl qN);(focus ((try intro hg);first|exact zab (zam rfl rfl) (decide_eq_true (by omega:(kk:Int)<16))|exact zac hR0 rfl|exact zaf (f:=zak) (us:=w) rfl rfl (by omega) i3|exact zaf (f:=zak) (us:=w) rfl rfl (by omega) i2|exact zaf (f:=zak) (us:=w) rfl rfl (by omega) i1|exact zaf (f:=zak) (us:=w) rfl rfl (by omega) i0|exact zaw (zsA rfl rfl (by simp only[InK];omega)) hword|exact zaf (f:=u32V) (us:=md5T) rfl rfl (by omega) hT|exact zac (zoL _ rr hR1.1 (by omega)) rfl|exact S_al rfl|exact S_bx rfl rfl|exact zbg rfl rfl rfl rfl rfl rfl|exact zaF 2001 rfl|exact zaF 2002 rfl|exact zaF 2003 rfl|exact zaF 2004 rfl|exact zaF 2005 rfl|(apply Pu.ok;repeat' (first|rfl|exact .inK (by simp only[InK];omega)|exact .wr|constructor|decide|omega))));constructor)|refine qP ?_)
      refine zaa (kk+1,d,IntKind.u32.wrap (b'+rot (IntKind.u32.wrap (IntKind.u32.wrap (IntKind.u32.wrap (a+ff)+tt)+ww)) rr),b',c) ⟨hk16,?_⟩ (by simp only;omega) (Wk_g some rfl rfl kq)
      simp only
      rw[←Nat.add_assoc,zby,←hw4,zdZ,hi,hgs,←hg,hww,htt,show(16*r+kk) % 4=kk % 4 by omega,hrr,hff]
     ·have hk16:kk=16:=by omega
      subst hk16
      repeat' (first|refine qU ?_|((first|apply dX rfl|apply Da rfl rfl|apply Db rfl rfl qN);(focus ((try intro hg);first|exact zab (zam rfl rfl) (decide_eq_false (by omega:¬((16:Nat):Int)<16))|exact qM));constructor)|refine qP ?_)
      refine zaa (r+1,a,b',c,d) ⟨hr4,?_⟩ (by simp only;omega) (Wk_g some rfl rfl kq)
      simp only
      rw[hw4,show 16*r+16=16*(r+1) by omega]
    ·have hr4:r=4:=by omega
     subst hr4
     obtain⟨a,b',c,d⟩:=u
     obtain⟨va,vb,vc,vd⟩:=v
     repeat' (first|refine qU ?_|((first|apply dX rfl|apply Da rfl rfl|apply Db rfl rfl qN);(focus ((try intro hg);first|exact zab (zam rfl rfl) (decide_eq_false (by omega:¬((4:Nat):Int)<4))|exact zc7 rfl rfl rfl (by decide) (by decide)|exact zba (f:=u32V) rfl rfl rfl rfl rfl (.inr ⟨rfl,inferInstance⟩) rfl rfl|exact qM));constructor)|refine qP ?_)
     refine zaa (k+1,64*(k:Int)+64,add4 (va,vb,vc,vd) (a,b',c,d)) ⟨hlt,by simp only;omega,?_⟩ (by simp only;omega) (Wk_g some rfl rfl kq)
     simp only
     rw[zbs,←hv,zbG,hu]
   ·have hkK:k=K:=by omega
    subst hkK
    rw[←hv]
    have hvok:=hok k
    rw[←hv]at hvok
    obtain⟨a,b',c,d⟩:=v
    obtain⟨v1,v2,v3,v4⟩:=hvok
    simp only at v1 v2 v3 v4
    have a0:=zqT v1
    obtain⟨_,a1,a2,a3⟩:=le_b v1
    have b0:=zqT v2
    obtain⟨_,b1,b2,b3⟩:=le_b v2
    have c0:=zqT v3
    obtain⟨_,c1,c2,c3⟩:=le_b v3
    have d0:=zqT v4
    obtain⟨_,d1,d2,d3⟩:=le_b v4
    have hgt:decide ((64*(k:Int))<((w.map zak).length:Int))=false:=decide_eq_false (by omega)
    repeat' (first|refine zdB ?_|refine zcS ?_|refine qU ?_|(apply dt rfl;case h=>first|exact zoR _ rfl (.dat _ _) (by decide) rfl)|((first|apply dX rfl|apply Da rfl rfl|apply Db rfl rfl qN);(focus ((try intro hg);first|exact zab (zam rfl rfl) hgt|exact zaH rfl a0|exact zaH rfl a1|exact zaH rfl a2|exact zaH rfl a3|exact zaH rfl b0|exact zaH rfl b1|exact zaH rfl b2|exact zaH rfl b3|exact zaH rfl c0|exact zaH rfl c1|exact zaH rfl c2|exact zaH rfl c3|exact zaH rfl d0|exact zaH rfl d1|exact zaH rfl d2|exact zaH rfl d3|exact zeD rfl rfl (by decide)|exact zc7 rfl rfl rfl (by decide) (by decide)|exact zoR _ rfl (.dat _ _) (by decide) rfl|exact zkj rfl rfl (.dat _ _) rfl (by simp only[List.length_append,List.length_cons,List.length_nil];omega)|exact S_al rfl|exact S_bx rfl rfl|exact zbg rfl rfl rfl rfl rfl rfl|exact zaF 2001 rfl|exact zaF 2002 rfl|exact zaF 2003 rfl|exact zaF 2004 rfl|exact zaF 2005 rfl|(apply Pu.ok;repeat' (first|rfl|exact .inK (by simp only[InK];omega)|exact .wr|constructor|decide|omega))));constructor)|refine qP ?_)
    exact gOwn (Wk_g (fun g=>if g=1000 then some 175 else none) rfl rfl kq)
end Go.Proofs.YtcdhlofhhcgohaaGreat
namespace Go.Proofs.YtcdhlofhhcgohaaGreat
open Go.RowKit
def macK (key:List UInt8):List UInt8:=if 64<key.length then md5S key else key
def zlw (key:List UInt8):List UInt8:=key++List.replicate (64-key.length) 0
def padK (key:List UInt8) (w:UInt8):List UInt8:=(zlw key).map (· ^^^ w)
def macS (key b:List UInt8):List UInt8:=md5S (padK (macK key) 92++md5S (padK (macK key) 54++b))
theorem zoS (key:List UInt8):(macK key).length≤64:=by
 unfold macK;split
 ·rw[zdC];decide
 ·omega
theorem zkk {key:List UInt8} (h:key.length≤64):(zlw key).length=64:=by simp[zlw];omega
theorem zfb {key:List UInt8} (h:key.length≤64) (w:UInt8):(padK key w).length=64:=by unfold padK;rw[List.length_map,zkk h]
theorem zfc (c w:UInt8):IntKind.u8.xorI (c.toNat:Int) (w.toNat:Int)=((c ^^^ w).toNat:Int):=by
 unfold IntKind.xorI
 have hb:IntKind.u8.bits=8:=rfl
 have hc:=c.toNat_lt
 have hw:=w.toNat_lt
 have e1:(BitVec.ofInt 8 (c.toNat:Int) ^^^ BitVec.ofInt 8 (w.toNat:Int)).toNat=c.toNat ^^^ w.toNat:=by
  rw[BitVec.toNat_xor]
  congr 1
  ·simp[]
  ·simp[]
 have h3:c.toNat ^^^ w.toNat<2 ^ 8:=Nat.xor_lt_two_pow hc hw
 rw[hb,e1,wrap_u8,UInt8.toNat_xor]
 omega
def mixK (base:List UInt8) (w:UInt8) (k:Nat):List UInt8:=(base.take k).map (· ^^^ w)++base.drop k
theorem zsM {base:List UInt8} {w:UInt8} {k:Nat} (h:k<base.length):(mixK base w k)[k]? = some base[k]:=by
 unfold mixK
 rw[List.getElem?_append_right (by simp;omega)]
 simp[Nat.min_eq_left (Nat.le_of_lt h)]
theorem zqU {base:List UInt8} {w:UInt8} {k:Nat} (h:k<base.length):(mixK base w k).set k (base[k] ^^^ w)=mixK base w (k+1):=by
 unfold mixK
 have hl:((base.take k).map (· ^^^ w)).length=k:=by simp;omega
 rw[List.set_append_right _ _ (by omega),hl,Nat.sub_self,List.drop_eq_getElem_cons h,List.set_cons_zero,List.take_succ_eq_append_getElem h,List.map_append,List.append_assoc]
 rfl
section
variable {P : Program} {e : Operand → D} {m : Mem} {dst : Option Tmp} {ty : TypeId} {pos : String} {af : Array Edge} {gd : Option (Nat × Bool)} {x y : Operand} {t ts : TypeId}
theorem zsN {α:Type} {f:α→List V} {us bs:List α} {g ver len s by_ el:Nat} {agg nw n nf:Bool} {zs:List V} [hu:SlcI P t el] [ht:TyI P el agg s by_ zs] [hf:CellsI f s] [hfl:FlatI f] (hs:Nat.blt 0 s=true) (h1:e x = .own g ver 0 len) (hmg:m.at g = .row ver false nw s (us.map f)) (hlx:len=us.length)
  (h2:e y = .dat n (.slice (bs.map f))) (hnf:nf=nw) :
  SStep P ⟨dst,.call { callee := .builtin .copy,args := #[x,y],argTypes := #[t,ts] },ty,pos,af,gd⟩ e m (g::refs0 (e y)) (.dat true (.int .i64 (min bs.length len:Nat))) [(g,.row ver false nf s ((bs.take len++us.drop bs.length).map f))]:=by
 have hs':0<s:=by simpa[Nat.blt_eq]using hs
 have hl:(us.map f).length=us.length:=by simp
 have hb:(bs.map f).length=bs.length:=by simp
 have:=zsa (P:=P) (m:=m) (t:=t) (ts:=ts) (el:=el) (by_:=by_) (zs:=zs) (agg:=agg) (dst:=dst) (ty:=ty) (pos:=pos) (af:=af) (gd:=gd) (nf:=true) (n:=n) (els:=bs.map f) hs' h1 hmg (by rw[hl];exact hlx)
  (by rw[h2];exact .dat n _ s (zgN bs)) (zfU bs) (.inr (fun e he d hd=>zgl bs e he d hd)) (fun v lo l h=>by rw[h2]at h;cases h)
 rw[hb,Bool.and_true,←List.map_take,←List.map_drop,←List.map_append]at this
 rw[hnf]
 exact this
end
attribute [local irreducible] SStep DW DWin DOps zaG zaE zaJ retQ zaN FnF FnG Wk IntKind.wrap IntKind.andI IntKind.orI IntKind.xorI IntKind.andNotI IntKind.shlI IntKind.shrI md5S padK
set_option maxHeartbeats 1000000 in
theorem zoT (key:List UInt8) (hk:key.length≤64) (w:UInt8):FnG Tryz.prog 129 [.dat false (.int .u8 w.toNat),.dat false (.rp [.slice (key.map zak)])] [] (.own 1000 0 0 64) [(1000,.row 0 false true 1 ((padK key w).map zak))]:=by
 refine zbj Tryz.func129 rfl rfl rfl ?_
 simp only[envD]
 have hbl:=zkk hk
 have hbase:key.take 64++(List.replicate 64 0).drop key.length=zlw key:=by
  unfold zlw;rw[List.take_of_length_le hk,List.drop_replicate]
 repeat' (first|(apply dt rfl;case h=>exact ziX (f:=zak) (l:=64) (c:=64) (0:UInt8) _ rfl rfl rfl rfl (Nat.le_refl _) (by decide) rfl rfl)|refine qU ?_|((first|apply dX rfl|apply Da rfl rfl|apply Db rfl rfl qN);(focus ((try intro hg);first|exact zsN (f:=zak) (us:=List.replicate 64 0) (bs:=key) rfl rfl rfl rfl rfl rfl|exact qM));constructor)|refine qP ?_)
 rw[hbase]
 obtain⟨base,hb⟩:∃ base,base=zlw key:=⟨_,rfl⟩
 rw[←hb]at hbl ⊢
 have hpad:padK key w=mixK base w 64:=by
  unfold padK mixK;rw[←hb,List.take_of_length_le (by omega),List.drop_eq_nil_of_le (by omega)];simp
 rw[hpad]
 refine zag (fun p:Nat×List UInt8=>⟨[(0,.dat false (.int .u8 w.toNat)),(4,.own 6 0 0 64),(11,.dat true (.int .i64 64)),(12,.dat true (.int .i64 p.1))],[(6,.row 0 false true 1 (p.2.map zak))],24⟩)
  (fun p=>p.1≤64∧p.2=mixK base w p.1) (fun p=>64-p.1) (0,base) ⟨Nat.zero_le _,by simp[mixK]⟩
  (Wk_g some rfl rfl kq) (fun p hR=>?_)
 obtain⟨k,us⟩:=p
 obtain⟨hk,hus⟩:=hR
 simp only at hk hus
 dsimp only
 by_cases hlt:k<64
 ·have hx0:us[(k:Int).toNat]? = some (base[k]'(by omega)):=by rw[hus,Int.toNat_natCast];exact zsM (by omega)
  have hx1:(us.map zak)[(k:Int).toNat]? = some (zak (base[k]'(by omega))):=by rw[List.getElem?_map,hx0];rfl
  have hset:us.set (k:Int).toNat (base[k]'(by omega) ^^^ w)=mixK base w (k+1):=by rw[hus,Int.toNat_natCast];exact zqU (by omega)
  generalize base[k]'(by omega)=c at hx0 hx1 hset
  repeat' (first|refine qU ?_|((first|apply dX rfl|apply Da rfl rfl|apply Db rfl rfl qN);(focus ((try intro hg);first|exact zab (zam rfl rfl) (decide_eq_true (by omega:(k:Int)<64))|exact zc7 rfl rfl rfl (by omega) (by omega)|exact zbn rfl rfl hx1 rfl|exact zaw (zhK rfl rfl) (zfc c w)|exact zba (f:=zak) (a:=c ^^^ w) rfl rfl hx0 rfl rfl (.inr ⟨rfl,inferInstance⟩) rfl rfl|exact qM));constructor)|refine qP ?_)
  exact zaa (k+1,us.set (k:Int).toNat (c ^^^ w)) ⟨hlt,hset⟩ (by simp only;omega) (Wk_g some rfl rfl kq)
 ·have hk64:k=64:=by omega
  subst hk64
  rw[←hus]
  repeat' (first|refine qU ?_|((first|apply dX rfl|apply Da rfl rfl|apply Db rfl rfl qN);(focus ((try intro hg);first|exact zab (zam rfl rfl) (decide_eq_false (by omega:¬((64:Nat):Int)<64))|exact qM));constructor)|refine qP ?_)
  exact gOwn (Wk_g (fun g=>if g=1000 then some 6 else none) rfl rfl kq)
end Go.Proofs.YtcdhlofhhcgohaaGreat
