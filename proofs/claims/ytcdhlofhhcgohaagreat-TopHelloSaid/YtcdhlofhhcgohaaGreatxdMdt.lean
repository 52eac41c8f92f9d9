/- MD5: the document's Sum. -/
import Derived.Test.YtcdhlofhhcgohaaGreatxdMds
namespace Go.Proofs.YtcdhlofhhcgohaaGreat
open Go.RowKit
section
variable {P : Program} {e : Operand → D} {m : Mem} {dst : Option Tmp} {ty : TypeId} {pos : String} {af : Array Edge} {gd : Option (Nat × Bool)} {x y : Operand} {t : TypeId}
theorem S_app1 {us:List UInt8} {c:UInt8} {g ver len by_ el:Nat} {agg n nw:Bool} {zs:List V} [hu:SlcI P t el] [ht:TyI P el agg 1 by_ zs] (h1:e x = .own g ver 0 len) (hmg:m.at g = .row ver false nw 1 (us.map byteV)) (h2:AppR m 1 (e y) n [[V.int .u8 (c.toNat:Int)]])
  (hlx:len=us.length) (hb:(us.length+1)*(by_+1)≤140737488355328) :
  SStep P ⟨dst,.call { callee := .builtin .append,args := #[x,y],argTypes := #[t,t] },ty,pos,af,gd⟩ e m (g::refs0 (e y)) (.own g (ver+1) 0 (us++[c]).length) [(g,.row (ver+1) false nw 1 ((us++[c]).map byteV))] :=
 S_appM (f:=byteV) (us:=us) (bs := [c]) h1 hmg h2 rfl hlx (.inr ⟨rfl,inferInstance⟩) rfl hb
theorem S_appN1 {c:UInt8} {by_ el:Nat} {agg n:Bool} {zs:List V} (g:Nat) [hu:SlcI P t el] [ht:TyI P el agg 1 by_ zs] (h1:e x = .nil) (h2:AppR m 1 (e y) n [[V.int .u8 (c.toNat:Int)]]) (hb:1*(by_+1)≤140737488355328) (hg:m.at g = .gone) :
  SStep P ⟨dst,.call { callee := .builtin .append,args := #[x,y],argTypes := #[t,t] },ty,pos,af,gd⟩ e m (refs0 (e y)) (.own g 1 0 [c].length) [(g,.row 1 false true 1 ([c].map byteV))] :=
 S_appNM g (f:=byteV) (nf:=true) (bs := [c]) h1 h2 rfl (.inr inferInstance) rfl hb hg
end
theorem md5G_shift {r k:Nat} (hr:r<4):md5G r (16*r+k)=md5G r k:=by
 rcases (by omega:r=0∨r=1∨r=2∨r=3)with rfl|rfl|rfl|rfl<;>simp only[md5G]<;>omega
theorem rs_at : (∀ j,j<4→([7,12,17,22]:List Int)[j]? = some (md5R.getD (4*0+j) 0))∧(∀ j,j<4→([5,9,14,20]:List Int)[j]? = some (md5R.getD (4*1+j) 0)) ∧
  (∀ j,j<4→([4,11,16,23]:List Int)[j]? = some (md5R.getD (4*2+j) 0))∧(∀ j,j<4→([6,10,15,21]:List Int)[j]? = some (md5R.getD (4*3+j) 0)):=by decide
theorem le_b0 {x:Int} (h:0≤x):IntKind.u8.wrap (IntKind.u32.shrI x 0)=((byteAt x 0).toNat:Int):=by
 have:IntKind.u32.shrI x 0=x:=by unfold IntKind.shrI;simp
 rw[this];exact(le_b h).1
theorem getT {k:Nat} (h:k<64):md5T[k]? = some (md5T.getD k 0):=by
 have:md5T.length=64:=rfl
 rw[List.getElem?_eq_getElem (by omega),List.getD_eq_getElem?_getD,List.getElem?_eq_getElem (by omega)];rfl
def ivL : List Int := [1732584193,4023233417,2562383102,271733878]
def stL (v:St4):List Int := [v.1,v.2.1,v.2.2.1,v.2.2.2]
attribute [local irreducible] SStep DW DWin DOps thenQ inBlk loopQ retQ retQG FnF FnG Wk IntKind.wrap IntKind.andI IntKind.orI IntKind.xorI IntKind.andNotI IntKind.shlI IntKind.shrI rot wordAt byteAt md5Block
theorem ref1_Round (r k:Nat) (hr:r<4) (hk:k<16) (b c d:Int):FnF Tryz.prog 184 [.int .i64 (r:Int),.int .i64 (k:Int),.int .u32 b,.int .u32 c,.int .u32 d]
  (.tuple [.int .u32 (md5F r b c d),.int .i64 (md5G r k:Nat),.int .i64 (md5R.getD (4*r+k % 4) 0)]):=by
 refine fnF_of Tryz.func184 rfl rfl rfl ?_
 simp only[envOf]
 have h4:(k:Int).tmod 4=((k % 4:Nat):Int):=by rw[Int.tmod_eq_emod_of_nonneg (by omega)];omega
 obtain⟨z0,z1,z2,z3⟩:=rs_at
 rcases (by omega:r=0∨r=1∨r=2∨r=3)with rfl|rfl|rfl|rfl
 ·have hx:([7,12,17,22]:List Int)[((k % 4:Nat):Int).toNat]? = some (md5R.getD (4*0+k % 4) 0):=by rw[Int.toNat_natCast];exact z0 _ (by omega)
  generalize md5R.getD (4*0+k % 4) 0=rr at hx
  have hg:(md5G 0 k:Nat)=k:=by simp only[md5G];omega
  rw[hg]
  repeat' (first|refine qU ?_|((first|apply dX rfl|apply Da rfl rfl|apply Db rfl rfl qN);(focus ((try intro hg);first|exact as_int (S_rem rfl rfl (by decide)) h4|exact S_compl rfl|exact S_ixM (f:=intV) (us := [7,12,17,22]) rfl rfl (by omega) hx|exact qM));constructor)|refine qP ?_)
  exact retN (.tmp rfl (.inl rfl) (.tmp rfl (.inr (.int _ _)) (.tmp rfl (.inr (.int _ _)) .nil))) rfl
 ·have hx:([5,9,14,20]:List Int)[((k % 4:Nat):Int).toNat]? = some (md5R.getD (4*1+k % 4) 0):=by rw[Int.toNat_natCast];exact z1 _ (by omega)
  generalize md5R.getD (4*1+k % 4) 0=rr at hx
  have hg:(1+5*(k:Int)).tmod 16=((md5G 1 k:Nat):Int):=by rw[Int.tmod_eq_emod_of_nonneg (by omega)];simp only[md5G];omega
  repeat' (first|refine qU ?_|((first|apply dX rfl|apply Da rfl rfl|apply Db rfl rfl qN);(focus ((try intro hg);first|exact as_int (S_rem rfl rfl (by decide)) h4|exact as_int (S_rem rfl rfl (by decide)) hg|exact S_compl rfl|exact S_ixM (f:=intV) (us := [5,9,14,20]) rfl rfl (by omega) hx|exact qM));constructor)|refine qP ?_)
  exact retN (.tmp rfl (.inl rfl) (.tmp rfl (.inr (.int _ _)) (.tmp rfl (.inr (.int _ _)) .nil))) rfl
 ·have hx:([4,11,16,23]:List Int)[((k % 4:Nat):Int).toNat]? = some (md5R.getD (4*2+k % 4) 0):=by rw[Int.toNat_natCast];exact z2 _ (by omega)
  generalize md5R.getD (4*2+k % 4) 0=rr at hx
  have hg:(5+3*(k:Int)).tmod 16=((md5G 2 k:Nat):Int):=by rw[Int.tmod_eq_emod_of_nonneg (by omega)];simp only[md5G];omega
  repeat' (first|refine qU ?_|((first|apply dX rfl|apply Da rfl rfl|apply Db rfl rfl qN);(focus ((try intro hg);first|exact as_int (S_rem rfl rfl (by decide)) h4|exact as_int (S_rem rfl rfl (by decide)) hg|exact S_compl rfl|exact S_ixM (f:=intV) (us := [4,11,16,23]) rfl rfl (by omega) hx|exact qM));constructor)|refine qP ?_)
  exact retN (.tmp rfl (.inl rfl) (.tmp rfl (.inr (.int _ _)) (.tmp rfl (.inr (.int _ _)) .nil))) rfl
 ·have hx:([6,10,15,21]:List Int)[((k % 4:Nat):Int).toNat]? = some (md5R.getD (4*3+k % 4) 0):=by rw[Int.toNat_natCast];exact z3 _ (by omega)
  generalize md5R.getD (4*3+k % 4) 0=rr at hx
  have hg:(7*(k:Int)).tmod 16=((md5G 3 k:Nat):Int):=by rw[Int.tmod_eq_emod_of_nonneg (by omega)];simp only[md5G];omega
  repeat' (first|refine qU ?_|((first|apply dX rfl|apply Da rfl rfl|apply Db rfl rfl qN);(focus ((try intro hg);first|exact as_int (S_rem rfl rfl (by decide)) h4|exact as_int (S_rem rfl rfl (by decide)) hg|exact S_compl rfl|exact S_ixM (f:=intV) (us := [6,10,15,21]) rfl rfl (by omega) hx|exact qM));constructor)|refine qP ?_)
  exact retN (.tmp rfl (.inl rfl) (.tmp rfl (.inr (.int _ _)) (.tmp rfl (.inr (.int _ _)) .nil))) rfl
end Go.Proofs.YtcdhlofhhcgohaaGreat
namespace Go.Proofs.YtcdhlofhhcgohaaGreat
open Go.RowKit
attribute [local irreducible] SStep DW DWin DOps thenQ inBlk loopQ retQ retQG FnF FnG Wk IntKind.wrap IntKind.andI IntKind.orI IntKind.xorI IntKind.andNotI IntKind.shlI IntKind.shrI rot wordAt byteAt md5Block md5F md5G
set_option maxRecDepth 10000 in
set_option maxHeartbeats 8000000 in
theorem ref1_Sum (b:List UInt8) (hb:b.length≤4194304):FnG Tryz.prog 149 [.dat false (.slice (b.map byteV))] [] (.own 1000 0 0 16) [(1000,.row 0 false true 1 ((md5S b).map byteV))]:=by
 have hml:(b.map byteV).length=b.length:=by simp
 obtain⟨hql,hq64⟩:=md5Pad_len b
 have hz:zerosN b.length<64:=by unfold zerosN;omega
 have hS:md5S b=md5Out (md5Blocks (md5Pad b) ((md5Pad b).length / 64) md5Iv):=rfl
 rw[hS]
 have hok:=blocks_ok (md5Pad b)
 obtain⟨q,hq⟩:∃ q,q=md5Pad b:=⟨_,rfl⟩
 rw[←hq]at hql hq64 hok ⊢
 refine fnG_of Tryz.func149 rfl rfl rfl ?_
 simp only[envD]
 repeat' (first|(apply dt rfl;case h=>exact S_litO (els := []) _ rfl rfl rfl rfl rfl)|refine qU ?_|((first|apply dX rfl|apply Da rfl rfl|apply Db rfl rfl qN);(focus ((try intro hg);first|exact S_appM (f:=byteV) (us := []) (bs:=b) rfl rfl (.dat _ _) rfl rfl (.inr ⟨rfl,inferInstance⟩) rfl (by simp only[List.length_nil];omega)|exact S_appM (f:=byteV) (us:=b) (bs := [128]) rfl rfl (.dat _ _) rfl rfl (.inr ⟨rfl,inferInstance⟩) rfl (by simp only[List.length_cons,List.length_nil];omega)|exact qM));constructor)|refine qP ?_)
 refine DW_loop (fun p:Nat×List UInt8=>⟨[(0,.dat false (.slice (b.map byteV))),(3,.own 25 0 0 p.2.length)],[(25,.row 0 false true 1 (p.2.map byteV))],178⟩)
  (fun p=>p.1≤zerosN b.length∧p.2=b++[128]++List.replicate p.1 0) (fun p=>zerosN b.length-p.1) (0,b++[128]) ⟨Nat.zero_le _,by simp⟩
  (Wk_g some rfl rfl kq) (fun p hR=>?_)
 obtain⟨z,m⟩:=p
 obtain⟨hz1,hm⟩:=hR
 simp only at hz1 hm
 dsimp only
 have hmlen:m.length=b.length+1+z:=by rw[hm];simp;omega
 have hrem:((m.length:Nat):Int).tmod 64=((m.length % 64:Nat):Int):=by rw[Int.tmod_eq_emod_of_nonneg (by omega)];omega
 by_cases hlt:z<zerosN b.length
 ·have hne:decide (((m.length % 64:Nat):Int)≠56)=true:=decide_eq_true (by unfold zerosN at hlt;omega)
  repeat' (first|refine qU ?_|((first|apply dX rfl|apply Da rfl rfl|apply Db rfl rfl qN);(focus ((try intro hg);first|exact as_int (S_rem rfl rfl (by decide)) hrem|exact as_bool (S_neq rfl rfl) hne|exact S_appM (f:=byteV) (us:=m) (bs := [0]) rfl rfl (.dat _ _) rfl rfl (.inr ⟨rfl,inferInstance⟩) rfl (by simp only[List.length_cons,List.length_nil];omega)|exact qM));constructor)|refine qP ?_)
  refine loop_again (z+1,m++[0]) ⟨hlt,?_⟩ (by simp only;omega) (Wk_g some rfl rfl kq)
  simp only
  rw[hm,List.replicate_succ',←List.append_assoc]
 ·have hze:z=zerosN b.length:=by omega
  have hne:decide (((m.length % 64:Nat):Int)≠56)=false:=decide_eq_false (by unfold zerosN at hze;omega)
  have h8:8*((b.map byteV).length:Int)=8*b.length:=by omega
  obtain⟨n,hn⟩:∃ n:Int,n=8*b.length:=⟨_,rfl⟩
  have hn0:0≤n:=by omega
  have h8':=h8.trans hn.symm
  repeat' (first|refine qU ?_|((first|apply dX rfl|apply Da rfl rfl|apply Db rfl rfl qN);(focus ((try intro hg);first|exact as_int (S_rem rfl rfl (by decide)) hrem|exact as_bool (S_neq rfl rfl) hne|exact as_int (I_mul rfl rfl (by simp only[InK];omega)) h8'|exact qM));constructor)|refine qP ?_)
  refine DW_loop (fun p:Nat×List UInt8=>⟨[(3,.own 25 0 0 p.2.length),(4,.dat true (.int .u64 n)),(5,.dat true (.int .i64 p.1))],[(25,.row 0 false true 1 (p.2.map byteV))],178⟩)
   (fun p=>p.1≤8∧p.2=m++leBytes n p.1) (fun p=>8-p.1) (0,m) ⟨Nat.zero_le _,by simp[leBytes]⟩
   (Wk_g some rfl rfl kq) (fun p hR=>?_)
  obtain⟨j,w⟩:=p
  obtain⟨hj,hw⟩:=hR
  simp only at hj hw
  dsimp only
  have hwl:w.length=m.length+j:=by rw[hw];simp[leBytes_len]
  by_cases hlt:j<8
  ·have hb1:IntKind.u8.wrap (IntKind.u64.shrI n (8*(j:Int)))=((byteAt n j).toNat:Int):=by
    unfold IntKind.shrI
    have hb:IntKind.u64.bits=64:=rfl
    rw[hb,wrap_u8,byteAt_v hn0,Int.fdiv_eq_ediv_of_nonneg _ (Int.pow_nonneg (by decide))]
    congr 3
    omega
   repeat' (first|refine qU ?_|((first|apply dX rfl|apply Da rfl rfl|apply Db rfl rfl qN);(focus ((try intro hg);first|exact as_bool (S_lss rfl rfl) (decide_eq_true (by omega:(j:Int)<8))|exact C_toInt rfl hb1|exact S_shr rfl rfl (by omega)|exact S_appM (f:=byteV) (us:=w) (bs := [byteAt n j]) rfl rfl (.dat _ _) rfl rfl (.inr ⟨rfl,inferInstance⟩) rfl (by simp only[List.length_cons,List.length_nil];omega)|exact qM));constructor)|refine qP ?_)
   refine loop_again (j+1,w++[byteAt n j]) ⟨hlt,?_⟩ (by simp only;omega) (Wk_g some rfl rfl kq)
   simp only
   rw[hw,leBytes,←List.append_assoc]
  ·have hwq:w=q:=by
    rw[hq,md5Pad_eq,hw,hm,hze,hn,show j=8 by omega]
   subst hwq
   repeat' (first|(apply dt rfl;case h=>exact S_litO (els:=ivL.map u32V) _ rfl rfl rfl rfl rfl)|refine qU ?_|((first|apply dX rfl|apply Da rfl rfl|apply Db rfl rfl qN);(focus ((try intro hg);first|exact as_bool (S_lss rfl rfl) (decide_eq_false (by omega:¬(j:Int)<8))|exact S_call ref1_Table rfl|exact qM));constructor)|refine qP ?_)
   obtain⟨K,hK⟩:∃ K,w.length=64*K:=⟨w.length / 64,by omega⟩
   have hKd:w.length / 64=K:=by omega
   have hwm:(w.map byteV).length=w.length:=by simp
   rw[hKd]
   refine DW_seal 3 rfl rfl (by simp) ?_
   refine DW_loop (fun p:Nat×Int×St4=>⟨[(3,.dat true (.slice (w.map byteV))),(6,.dat true (.slice (md5T.map u32V))),(7,.own 55 0 0 4),(8,.dat true (.int .i64 p.2.1))],[(55,.row 0 false true 1 ((stL p.2.2).map u32V))],178⟩)
    (fun p=>p.1≤K∧p.2.1=64*p.1∧p.2.2=md5Blocks w p.1 md5Iv) (fun p=>K-p.1) (0,0,md5Iv) ⟨Nat.zero_le _,rfl,rfl⟩
    (Wk_g some rfl rfl kq) (fun p hR=>?_)
   obtain⟨k,at_,v⟩:=p
   obtain⟨hk,hat,hv⟩:=hR
   simp only at hk hat hv
   dsimp only
   subst hat
   by_cases hlt:k<K
   ·have hgt:decide ((64*(k:Int))<((w.map byteV).length:Int))=true:=decide_eq_true (by omega)
    repeat' (first|refine qU ?_|((first|apply dX rfl|apply Da rfl rfl|apply Db rfl rfl qN);(focus ((try intro hg);first|exact as_bool (S_lss rfl rfl) hgt|exact S_ixO rfl rfl rfl (by decide) (by decide)|exact qM));constructor)|refine qP ?_)
    refine DW_loop (fun p:Nat×St4=>⟨[(3,.dat true (.slice (w.map byteV))),(6,.dat true (.slice (md5T.map u32V))),(7,.own 55 0 0 4),(8,.dat true (.int .i64 (64*k))),(9,.dat true (.int .u32 p.2.1)),(10,.dat true (.int .u32 p.2.2.1)),(11,.dat true (.int .u32 p.2.2.2.1)),(12,.dat true (.int .u32 p.2.2.2.2)),(13,.dat true (.int .i64 p.1))],[(55,.row 0 false true 1 ((stL v).map u32V))],178⟩)
     (fun p=>p.1≤4∧p.2=md5Steps w (64*k) (16*p.1) v) (fun p=>4-p.1) (0,v) ⟨Nat.zero_le _,rfl⟩
     (Wk_g some rfl rfl kq) (fun p hR=>?_)
    obtain⟨r,u⟩:=p
    obtain⟨hr,hu⟩:=hR
    simp only at hr hu
    dsimp only
    by_cases hr4:r<4
    ·repeat' (first|refine qU ?_|((first|apply dX rfl|apply Da rfl rfl|apply Db rfl rfl qN);(focus ((try intro hg);first|exact as_bool (S_lss rfl rfl) (decide_eq_true (by omega:(r:Int)<4))|exact qM));constructor)|refine qP ?_)
     refine DW_loop (fun p:Nat×St4=>⟨[(3,.dat true (.slice (w.map byteV))),(6,.dat true (.slice (md5T.map u32V))),(7,.own 55 0 0 4),(8,.dat true (.int .i64 (64*k))),(9,.dat true (.int .u32 p.2.1)),(10,.dat true (.int .u32 p.2.2.1)),(11,.dat true (.int .u32 p.2.2.2.1)),(12,.dat true (.int .u32 p.2.2.2.2)),(13,.dat true (.int .i64 r)),(14,.dat true (.int .i64 p.1))],[(55,.row 0 false true 1 ((stL v).map u32V))],178⟩)
      (fun p=>p.1≤16∧p.2=md5Steps w (64*k) (16*r+p.1) v) (fun p=>16-p.1) (0,u) ⟨Nat.zero_le _,hu⟩
      (Wk_g some rfl rfl kq) (fun p hR=>?_)
     obtain⟨kk,a,b',c,d⟩:=p
     obtain⟨hkk,hw4⟩:=hR
     simp only at hkk hw4
     dsimp only
     by_cases hk16:kk<16
     ·have hi:(16*r+kk) / 16=r:=by omega
      have hi2:(16*r+kk) % 16=kk:=by omega
      have hR0:=ref1_Round r kk hr4 hk16 b' c d
      have hglt:=md5G_lt r kk
      have hgs:=md5G_shift (r:=r) (k:=kk) hr4
      have hR1:=md5R_ok (4*r+kk % 4) (by omega)
      have hT:md5T[(16*(r:Int)+(kk:Int)).toNat]? = some (md5T.getD (16*r+kk) 0):=by
       rw[show(16*(r:Int)+(kk:Int)).toNat=16*r+kk by omega];exact getT (by omega)
      obtain⟨g,hg⟩:∃ g,g=md5G r kk:=⟨_,rfl⟩
      rw[←hg]at hR0 hglt
      obtain⟨c0,h0⟩:=some_at (b:=w) (k:=64*k+4*g) (by omega)
      obtain⟨c1,h1⟩:=some_at (b:=w) (k:=64*k+4*g+1) (by omega)
      obtain⟨c2,h2⟩:=some_at (b:=w) (k:=64*k+4*g+2) (by omega)
      obtain⟨c3,h3⟩:=some_at (b:=w) (k:=64*k+4*g+3) (by omega)
      have i3:w[(64*(k:Int)+4*(g:Int)+3).toNat]? = some c3:=by rw[←h3];congr 1
      have i2:w[(64*(k:Int)+4*(g:Int)+(3-1)).toNat]? = some c2:=by rw[←h2];congr 1
      have i1:w[(64*(k:Int)+4*(g:Int)+(3-1-1)).toNat]? = some c1:=by rw[←h1];congr 1
      have i0:w[(64*(k:Int)+4*(g:Int)+(3-1-1-1)).toNat]? = some c0:=by rw[←h0];congr 1
      have l0:=c0.toNat_lt
      have l1:=c1.toNat_lt
      have l2:=c2.toNat_lt
      have l3:=c3.toNat_lt
      have hword:256*(256*(256*(256*0+(c3.toNat:Int))+c2.toNat)+c1.toNat)+c0.toNat=wordAt w (64*k+4*g):=by
       unfold wordAt
       rw[getD_some h0,getD_some h1,getD_some h2,getD_some h3];omega
      generalize htt:md5T.getD (16*r+kk) 0=tt at hT
      generalize hrr:md5R.getD (4*r+kk % 4) 0=rr at hR0 hR1
      generalize hff:md5F r b' c d=ff at hR0
      generalize hww:wordAt w (64*k+4*g)=ww at hword
      repeat' (first|refine DW_loopU ?_|refine DWin_step ?_|refine qU ?_|((first|apply dX rfl|apply Da rfl rfl|apply Db rfl rfl qN);(focus ((try intro hg);first|exact as_bool (S_lss rfl rfl) (decide_eq_true (by omega:(kk:Int)<16))|exact S_call hR0 rfl|exact S_ixM (f:=byteV) (us:=w) rfl rfl (by omega) i3|exact S_ixM (f:=byteV) (us:=w) rfl rfl (by omega) i2|exact S_ixM (f:=byteV) (us:=w) rfl rfl (by omega) i1|exact S_ixM (f:=byteV) (us:=w) rfl rfl (by omega) i0|exact as_int (I_add rfl rfl (by simp only[InK];omega)) hword|exact S_ixM (f:=u32V) (us:=md5T) rfl rfl (by omega) hT|exact S_call (ref1_turn _ rr hR1.1 (by omega)) rfl|exact S_al rfl|exact S_bx rfl rfl|exact S_store rfl rfl rfl rfl rfl rfl|exact S_alloc 2001 rfl|exact S_alloc 2002 rfl|exact S_alloc 2003 rfl|exact S_alloc 2004 rfl|exact S_alloc 2005 rfl|(apply Pu.ok;repeat' (first|rfl|exact .inK (by simp only[InK];omega)|exact .wr|constructor|decide|omega))));constructor)|refine qP ?_)
      refine loop_again (kk+1,d,IntKind.u32.wrap (b'+rot (IntKind.u32.wrap (IntKind.u32.wrap (IntKind.u32.wrap (a+ff)+tt)+ww)) rr),b',c) ⟨hk16,?_⟩ (by simp only;omega) (Wk_g some rfl rfl kq)
      simp only
      rw[←Nat.add_assoc,md5Steps,←hw4,md5Step,hi,hgs,←hg,hww,htt,show(16*r+kk) % 4=kk % 4 by omega,hrr,hff]
     ·have hk16:kk=16:=by omega
      subst hk16
      repeat' (first|refine qU ?_|((first|apply dX rfl|apply Da rfl rfl|apply Db rfl rfl qN);(focus ((try intro hg);first|exact as_bool (S_lss rfl rfl) (decide_eq_false (by omega:¬((16:Nat):Int)<16))|exact qM));constructor)|refine qP ?_)
      refine loop_again (r+1,a,b',c,d) ⟨hr4,?_⟩ (by simp only;omega) (Wk_g some rfl rfl kq)
      simp only
      rw[hw4,show 16*r+16=16*(r+1) by omega]
    ·have hr4:r=4:=by omega
     subst hr4
     obtain⟨a,b',c,d⟩:=u
     obtain⟨va,vb,vc,vd⟩:=v
     repeat' (first|refine qU ?_|((first|apply dX rfl|apply Da rfl rfl|apply Db rfl rfl qN);(focus ((try intro hg);first|exact as_bool (S_lss rfl rfl) (decide_eq_false (by omega:¬((4:Nat):Int)<4))|exact S_ixO rfl rfl rfl (by decide) (by decide)|exact S_storeM (f:=u32V) rfl rfl rfl rfl rfl (.inr ⟨rfl,inferInstance⟩) rfl rfl|exact qM));constructor)|refine qP ?_)
     refine loop_again (k+1,64*(k:Int)+64,add4 (va,vb,vc,vd) (a,b',c,d)) ⟨hlt,by simp only;omega,?_⟩ (by simp only;omega) (Wk_g some rfl rfl kq)
     simp only
     rw[md5Blocks,←hv,md5Block,hu]
   ·have hkK:k=K:=by omega
    subst hkK
    rw[←hv]
    have hvok:=hok k
    rw[←hv]at hvok
    obtain⟨a,b',c,d⟩:=v
    obtain⟨v1,v2,v3,v4⟩:=hvok
    simp only at v1 v2 v3 v4
    have a0:=le_b0 v1
    obtain⟨_,a1,a2,a3⟩:=le_b v1
    have b0:=le_b0 v2
    obtain⟨_,b1,b2,b3⟩:=le_b v2
    have c0:=le_b0 v3
    obtain⟨_,c1,c2,c3⟩:=le_b v3
    have d0:=le_b0 v4
    obtain⟨_,d1,d2,d3⟩:=le_b v4
    have hgt:decide ((64*(k:Int))<((w.map byteV).length:Int))=false:=decide_eq_false (by omega)
    repeat' (first|refine DW_loopU ?_|refine DWin_step ?_|refine qU ?_|(apply dt rfl;case h=>first|exact S_appN1 _ rfl (.dat _ _) (by decide) rfl)|((first|apply dX rfl|apply Da rfl rfl|apply Db rfl rfl qN);(focus ((try intro hg);first|exact as_bool (S_lss rfl rfl) hgt|exact C_toInt rfl a0|exact C_toInt rfl a1|exact C_toInt rfl a2|exact C_toInt rfl a3|exact C_toInt rfl b0|exact C_toInt rfl b1|exact C_toInt rfl b2|exact C_toInt rfl b3|exact C_toInt rfl c0|exact C_toInt rfl c1|exact C_toInt rfl c2|exact C_toInt rfl c3|exact C_toInt rfl d0|exact C_toInt rfl d1|exact C_toInt rfl d2|exact C_toInt rfl d3|exact S_shr rfl rfl (by decide)|exact S_ixO rfl rfl rfl (by decide) (by decide)|exact S_appN1 _ rfl (.dat _ _) (by decide) rfl|exact S_app1 rfl rfl (.dat _ _) rfl (by simp only[List.length_append,List.length_cons,List.length_nil];omega)|exact S_al rfl|exact S_bx rfl rfl|exact S_store rfl rfl rfl rfl rfl rfl|exact S_alloc 2001 rfl|exact S_alloc 2002 rfl|exact S_alloc 2003 rfl|exact S_alloc 2004 rfl|exact S_alloc 2005 rfl|(apply Pu.ok;repeat' (first|rfl|exact .inK (by simp only[InK];omega)|exact .wr|constructor|decide|omega))));constructor)|refine qP ?_)
    exact gOwn (Wk_g (fun g=>if g=1000 then some 175 else none) rfl rfl kq)
end Go.Proofs.YtcdhlofhhcgohaaGreat
