/- Contracts: package frame, and the document's (hedgeref2). -/
import Derived.Test.YtcdhlofhhcgohaaGreatxcMd5
import Derived.Test.YtcdhlofhhcgohaaGreatxbKep
namespace Go.Proofs.YtcdhlofhhcgohaaGreat
open Go.RowKit
attribute [local irreducible] SStep DW DOps thenQ inBlk loopQ retQ retQG FnF FnG Wk IntKind.wrap IntKind.andI IntKind.orI IntKind.xorI IntKind.andNotI IntKind.shlI IntKind.shrI
theorem frame_put (n:Int) (h0:0≤n) (sz:Nat) (hs:sz≤8) (l:List UInt8) (hl:l.length≤1099511627776) :
  FnG Tryz.prog 83 [.own 1000 0 0 l.length,.dat false (.int .u64 n),.dat false (.int .i64 sz)] [(1000,.row 0 false true 1 (l.map byteV))] (.own 1000 0 0 (l++beBytes n sz).length) [(1000,.row 0 false true 1 ((l++beBytes n sz).map byteV))]:=by
 refine fnG_of Tryz.func83 rfl rfl rfl ?_
 simp only[envD]
 repeat' (first|refine qU ?_|((first|apply dX rfl|apply Da rfl rfl|apply Db rfl rfl qN);(focus ((try intro hg);first|exact qM));constructor)|refine qP ?_)
 refine DW_loop (fun p:List UInt8×Int=>⟨[(0,.own 1000 0 0 p.1.length),(1,.dat false (.int .u64 n)),(7,.dat true (.int .i64 p.2))],[(1000,.row 0 false true 1 (p.1.map byteV))],23⟩) (fun p => -1≤p.2∧p.2<sz∧p.1++beBytes n (p.2+1).toNat=l++beBytes n sz) (fun p=>(p.2+1).toNat) (l,sz-1) ⟨by simp only;omega,by simp only;omega,by simp⟩
  (Wk_g some rfl rfl kq) (fun p hR=>?_)
 obtain⟨r,k⟩:=p
 obtain⟨hk1,hk2,hr⟩:=hR
 simp only at hk1 hk2 hr
 by_cases hk:0≤k
 ·have hrl:r.length≤1099511627776+8:=by
   have:=congrArg List.length hr
   simp[beBytes_len]at this
   omega
  have hb:IntKind.u8.wrap (IntKind.u64.shrI n (8*k))=((byteAt n k.toNat).toNat:Int):=by
   unfold IntKind.shrI
   have hb:IntKind.u64.bits=64:=rfl
   rw[hb,wrap_u8,byteAt_v h0,Int.fdiv_eq_ediv_of_nonneg _ (Int.pow_nonneg (by decide))]
   congr 3
   omega
  repeat' (first|(apply DW_true rfl;case hb=>(first|(simp;omega)|(simp;done)))|refine qU ?_|((first|apply dX rfl|apply Da rfl rfl|apply Db rfl rfl qN);(focus ((try intro hg);first|exact C_toInt rfl hb|exact S_appM (f:=byteV) (bs := [byteAt n k.toNat]) rfl rfl (.dat _ _) rfl rfl (.inr ⟨rfl,inferInstance⟩) rfl (by simp;omega)|exact qM));constructor)|refine qP ?_)
  refine loop_again (r++[byteAt n k.toNat],k-1) ⟨by simp only;omega,by simp only;omega,?_⟩ (by simp only;omega) (Wk_g some rfl rfl kq)
  simp only
  rw[←hr,show(k+1).toNat=k.toNat+1 by omega,show(k-1+1).toNat=k.toNat by omega]
  simp[beBytes]
 ·repeat' (first|(apply DW_false rfl;case hb=>(first|(simp;omega)|(simp;done)))|refine qU ?_|((first|apply dX rfl|apply Da rfl rfl|apply Db rfl rfl qN);(focus ((try intro hg);first|exact qM));constructor)|refine qP ?_)
  have:k = -1:=by omega
  subst this
  simp[beBytes]at hr
  subst hr
  exact gOwn (Wk_g some rfl rfl kq)
theorem frame_put_nil (n:Int) (h0:0≤n) (sz:Nat) (hs:sz≤8) :
  FnG Tryz.prog 83 [.nil,.dat false (.int .u64 n),.dat false (.int .i64 sz)] [] (.own 1000 0 0 (beBytes n sz).length) [(1000,.row 0 false true 1 ((beBytes n sz).map byteV))]:=by
 refine fnG_of Tryz.func83 rfl rfl rfl ?_
 simp only[envD]
 repeat' (first|refine qU ?_|((first|apply dX rfl|apply Da rfl rfl|apply Db rfl rfl qN);(focus ((try intro hg);first|exact qM));constructor)|refine qP ?_)
 refine DW_loop (fun p:List UInt8×Int=>⟨[(0,.own 1000 0 0 p.1.length),(1,.dat false (.int .u64 n)),(7,.dat true (.int .i64 p.2))],[(1000,.row 0 false true 1 (p.1.map byteV))],23⟩) (fun p => -1≤p.2∧p.2<sz∧p.1++beBytes n (p.2+1).toNat=beBytes n sz) (fun p=>(p.2+1).toNat) ([],sz-1) ⟨by simp only;omega,by simp only;omega,by simp⟩
  (Wk_g (fun _=>none) rfl rfl kq) (fun p hR=>?_)
 obtain⟨r,k⟩:=p
 obtain⟨hk1,hk2,hr⟩:=hR
 simp only at hk1 hk2 hr
 by_cases hk:0≤k
 ·have hrl:r.length≤1099511627776+8:=by
   have:=congrArg List.length hr
   simp[beBytes_len]at this
   omega
  have hb:IntKind.u8.wrap (IntKind.u64.shrI n (8*k))=((byteAt n k.toNat).toNat:Int):=by
   unfold IntKind.shrI
   have hb:IntKind.u64.bits=64:=rfl
   rw[hb,wrap_u8,byteAt_v h0,Int.fdiv_eq_ediv_of_nonneg _ (Int.pow_nonneg (by decide))]
   congr 3
   omega
  repeat' (first|(apply DW_true rfl;case hb=>(first|(simp;omega)|(simp;done)))|refine qU ?_|((first|apply dX rfl|apply Da rfl rfl|apply Db rfl rfl qN);(focus ((try intro hg);first|exact C_toInt rfl hb|exact S_appM (f:=byteV) (bs := [byteAt n k.toNat]) rfl rfl (.dat _ _) rfl rfl (.inr ⟨rfl,inferInstance⟩) rfl (by simp;omega)|exact qM));constructor)|refine qP ?_)
  refine loop_again (r++[byteAt n k.toNat],k-1) ⟨by simp only;omega,by simp only;omega,?_⟩ (by simp only;omega) (Wk_g some rfl rfl kq)
  simp only
  rw[←hr,show(k+1).toNat=k.toNat+1 by omega,show(k-1+1).toNat=k.toNat by omega]
  simp[beBytes]
 ·repeat' (first|(apply DW_false rfl;case hb=>(first|(simp;omega)|(simp;done)))|refine qU ?_|((first|apply dX rfl|apply Da rfl rfl|apply Db rfl rfl qN);(focus ((try intro hg);first|exact qM));constructor)|refine qP ?_)
  have:k = -1:=by omega
  subst this
  simp[beBytes]at hr
  subst hr
  exact gOwn (Wk_g some rfl rfl kq)
theorem hello_put (n:Int) (h0:0≤n) (sz:Nat) (hs:sz≤8) (l:List UInt8) (hl:l.length≤1099511627776) :
  FnG Tryz.prog 81 [.own 1000 0 0 l.length,.dat false (.int .u64 n),.dat false (.int .i64 sz)] [(1000,.row 0 false true 1 (l.map byteV))] (.own 1000 0 0 (l++beBytes n sz).length) [(1000,.row 0 false true 1 ((l++beBytes n sz).map byteV))]:=by
 refine fnG_of Tryz.func81 rfl rfl rfl ?_
 simp only[envD]
 repeat' (first|refine qU ?_|((first|apply dX rfl|apply Da rfl rfl|apply Db rfl rfl qN);(focus ((try intro hg);first|exact qM));constructor)|refine qP ?_)
 refine DW_loop (fun p:List UInt8×Int=>⟨[(0,.own 1000 0 0 p.1.length),(1,.dat false (.int .u64 n)),(7,.dat true (.int .i64 p.2))],[(1000,.row 0 false true 1 (p.1.map byteV))],23⟩) (fun p => -1≤p.2∧p.2<sz∧p.1++beBytes n (p.2+1).toNat=l++beBytes n sz) (fun p=>(p.2+1).toNat) (l,sz-1) ⟨by simp only;omega,by simp only;omega,by simp⟩
  (Wk_g some rfl rfl kq) (fun p hR=>?_)
 obtain⟨r,k⟩:=p
 obtain⟨hk1,hk2,hr⟩:=hR
 simp only at hk1 hk2 hr
 by_cases hk:0≤k
 ·have hrl:r.length≤1099511627776+8:=by
   have:=congrArg List.length hr
   simp[beBytes_len]at this
   omega
  have hb:IntKind.u8.wrap (IntKind.u64.shrI n (8*k))=((byteAt n k.toNat).toNat:Int):=by
   unfold IntKind.shrI
   have hb:IntKind.u64.bits=64:=rfl
   rw[hb,wrap_u8,byteAt_v h0,Int.fdiv_eq_ediv_of_nonneg _ (Int.pow_nonneg (by decide))]
   congr 3
   omega
  repeat' (first|(apply DW_true rfl;case hb=>(first|(simp;omega)|(simp;done)))|refine qU ?_|((first|apply dX rfl|apply Da rfl rfl|apply Db rfl rfl qN);(focus ((try intro hg);first|exact C_toInt rfl hb|exact S_appM (f:=byteV) (bs := [byteAt n k.toNat]) rfl rfl (.dat _ _) rfl rfl (.inr ⟨rfl,inferInstance⟩) rfl (by simp;omega)|exact qM));constructor)|refine qP ?_)
  refine loop_again (r++[byteAt n k.toNat],k-1) ⟨by simp only;omega,by simp only;omega,?_⟩ (by simp only;omega) (Wk_g some rfl rfl kq)
  simp only
  rw[←hr,show(k+1).toNat=k.toNat+1 by omega,show(k-1+1).toNat=k.toNat by omega]
  simp[beBytes]
 ·repeat' (first|(apply DW_false rfl;case hb=>(first|(simp;omega)|(simp;done)))|refine qU ?_|((first|apply dX rfl|apply Da rfl rfl|apply Db rfl rfl qN);(focus ((try intro hg);first|exact qM));constructor)|refine qP ?_)
  have:k = -1:=by omega
  subst this
  simp[beBytes]at hr
  subst hr
  exact gOwn (Wk_g some rfl rfl kq)
theorem hello_number (l:List UInt8) (hl:l.length≤1099511627776):FnF Tryz.prog 82 [.slice (l.map byteV)] (.int .u64 (beNum l)):=by
 refine fnF_of Tryz.func82 rfl rfl rfl ?_
 simp only[envOf]
 repeat' (first|refine qU ?_|((first|apply dX rfl|apply Da rfl rfl|apply Db rfl rfl qN);(focus ((try intro hg);first|exact qM));constructor)|refine qP ?_)
 refine DW_loop (fun k:Nat=>⟨[(3,.dat true (.int .u64 (beNum (l.take k)))),(6,.dat false (.slice (l.map byteV))),(7,.dat true (.int .i64 (l.map byteV).length)),(8,.dat true (.int .i64 k))],[],19⟩) (fun k=>k≤l.length) (fun k=>l.length-k) 0 (Nat.zero_le _)
  (Wk_g some rfl rfl kq) (fun k hk=>?_)
 by_cases hlt:k<l.length
 ·have hx:l[(k:Int).toNat]? = some l[k]:=by simp[hlt]
  have hn:l.take (k+1)=l.take k++[l[k]]:=List.take_succ_eq_append_getElem hlt
  generalize l[k]=c at hx hn
  repeat' (first|(apply DW_true rfl;case hb=>(first|(simp;omega)|(simp;done)))|refine qU ?_|((first|apply dX rfl|apply Da rfl rfl|apply Db rfl rfl qN);(focus ((try intro hg);first|exact S_ixM rfl rfl (by omega) hx|exact as_int (S_or rfl rfl) (or_step c (beNum_range _).1)|exact I_toInt rfl (by simp only[InK];have:=c.toNat_lt;omega)|exact qM));constructor)|refine qP ?_)
  rw[←beNum_snoc,←hn]
  exact loop_again (k+1) hlt (by omega) (Wk_g some rfl rfl kq)
 ·repeat' (first|(apply DW_false rfl;case hb=>(first|(simp;omega)|(simp;done)))|refine qU ?_|((first|apply dX rfl|apply Da rfl rfl|apply Db rfl rfl qN);(focus ((try intro hg);first|exact qM));constructor)|refine qP ?_)
  refine ret1 rfl (.inl rfl) ?_
  rw[List.take_of_length_le (by omega)]
theorem frame_take_ok (l:List UInt8) (s:Nat) (hl:l.length≤1099511627776) (h:s≤l.length):FnG Tryz.prog 84 [.dat false (.slice (l.map byteV)),.dat false (.int .i64 s)] [] (.dat false (.tuple [.int .u64 (beNum (l.take s)),.slice ((l.drop s).map byteV),.bool true])) []:=by
 refine fnG_of Tryz.func84 rfl rfl rfl ?_
 simp only[envD]
 repeat' (first|(apply DW_false rfl;case hb=>(first|(simp;omega)|(simp;done)))|refine qU ?_|((first|apply dX rfl|apply Da rfl rfl|apply Db rfl rfl qN);(focus ((try intro hg);first|exact S_slice rfl (.none _) (.some _ _ _ _ s rfl) (by omega) (by simp;omega) (map_len _)|exact qM));constructor)|refine qP ?_)
 have hq:(l.take s).length=s:=by simp;omega
 rw[Nat.sub_zero,List.drop_zero,←List.map_take]
 generalize hr:l.take s=r at hq
 repeat' (first|refine qU ?_|((first|apply dX rfl|apply Da rfl rfl|apply Db rfl rfl qN);(focus ((try intro hg);first|exact qM));constructor)|refine qP ?_)
 refine DW_loop (fun k:Nat=>⟨[(0,.dat false (.slice (l.map byteV))),(1,.dat false (.int .i64 s)),(7,.dat true (.int .u64 (beNum (r.take k)))),(16,.dat false (.slice (r.map byteV))),(17,.dat true (.int .i64 (r.map byteV).length)),(18,.dat true (.int .i64 k))],[],32⟩) (fun k=>k≤r.length) (fun k=>r.length-k) 0 (Nat.zero_le _)
  (Wk_g some rfl rfl kq) (fun k hk=>?_)
 by_cases hlt:k<r.length
 ·have hx:r[(k:Int).toNat]? = some r[k]:=by simp[hlt]
  have hn:r.take (k+1)=r.take k++[r[k]]:=List.take_succ_eq_append_getElem hlt
  generalize r[k]=c at hx hn
  repeat' (first|(apply DW_true rfl;case hb=>(first|(simp;omega)|(simp;done)))|refine qU ?_|((first|apply dX rfl|apply Da rfl rfl|apply Db rfl rfl qN);(focus ((try intro hg);first|exact S_ixM rfl rfl (by omega) hx|exact as_int (S_or rfl rfl) (or_step c (beNum_range _).1)|exact I_toInt rfl (by simp only[InK];have:=c.toNat_lt;omega)|exact qM));constructor)|refine qP ?_)
  rw[←beNum_snoc,←hn]
  exact loop_again (k+1) hlt (by omega) (Wk_g some rfl rfl kq)
 ·repeat' (first|(apply DW_false rfl;case hb=>(first|(simp;omega)|(simp;done)))|refine qU ?_|((first|apply dX rfl|apply Da rfl rfl|apply Db rfl rfl qN);(focus ((try intro hg);first|exact S_slice rfl (.some _ _ _ _ s rfl) (.none _) (by simp;omega) (by simp) (map_len _)|exact qM));constructor)|refine qP ?_)
  refine gOld (.tmp rfl (.tmp rfl (.tmp rfl .nil))) Wk_none ?_
  simp[pack]
  rw[List.take_of_length_le (by omega),List.take_of_length_le (by simp)]
  simp
theorem frame_take_no (l:List UInt8) (s:Nat) (_:l.length≤1099511627776) (h:l.length<s) (_:s≤1099511627776):FnG Tryz.prog 84 [.dat false (.slice (l.map byteV)),.dat false (.int .i64 s)] [] (.dat false (.tuple [.int .u64 0,.slice [],.bool false])) []:=by
 refine fnG_of Tryz.func84 rfl rfl rfl ?_
 simp only[envD]
 repeat' (first|(apply DW_true rfl;case hb=>(first|(simp;omega)|(simp;done)))|refine qU ?_|((first|apply dX rfl|apply Da rfl rfl|apply Db rfl rfl qN);(focus ((try intro hg);first|exact qM));constructor)|refine qP ?_)
 exact gOld (.tmp rfl (.tmp rfl (.tmp rfl .nil))) Wk_none rfl
end Go.Proofs.YtcdhlofhhcgohaaGreat
namespace Go.Proofs.YtcdhlofhhcgohaaGreat
open Go.RowKit
attribute [local irreducible] SStep DW DOps thenQ inBlk loopQ retQ retQG FnF FnG Wk IntKind.wrap IntKind.andI IntKind.orI IntKind.xorI IntKind.andNotI IntKind.shlI IntKind.shrI beBytes byteAt beNum
theorem or_nat {a b:Int} (h:0≤a) (h2:a≤18446744073709551615) (k:0≤b) (k2:b≤18446744073709551615) :
  IntKind.u64.orI a b=((a.toNat ||| b.toNat:Nat):Int):=by
 have hb:IntKind.u64.bits=64:=rfl
 have e1:(BitVec.ofInt 64 a ||| BitVec.ofInt 64 b).toNat=a.toNat ||| b.toNat:=by
  rw[BitVec.toNat_or,ofInt_toNat64 h (by omega),ofInt_toNat64 k (by omega)]
 unfold IntKind.orI
 have h3:a.toNat ||| b.toNat<2 ^ 64:=Nat.or_lt_two_pow (by omega) (by omega)
 rw[hb,e1,wrap_u64]
 omega
theorem shl_13 {a:Int} (h:0≤a) (h2:a≤7):IntKind.u64.shlI a 13=a*8192:=by
 unfold IntKind.shlI
 have e:(2:Int) ^ (min (13:Int).toNat IntKind.u64.bits)=8192:=by decide
 rw[e,wrap_u64];omega
theorem or_13 {p v:Int} (h:0≤p) (h2:p≤7) (k:0≤v) (k2:v≤4095):IntKind.u64.orI (p*8192) v=p*8192+v:=by
 rw[or_nat (by omega) (by omega) k (by omega)]
 have e:(p*8192).toNat=p.toNat <<< 13:=by rw[Nat.shiftLeft_eq];omega
 rw[e,←Nat.shiftLeft_add_eq_or_of_lt (by omega:v.toNat<2 ^ 13),Nat.shiftLeft_eq]
 omega
theorem or_12 {p v:Int} (h:0≤p) (h2:p≤7) (k:0≤v) (k2:v≤4095):IntKind.u64.orI (p*8192+v) 4096=p*8192+v+4096:=by
 rw[or_nat (by omega) (by omega) (by omega) (by omega)]
 have e:(p*8192+v).toNat=p.toNat <<< 13 ||| v.toNat:=by
  rw[←Nat.shiftLeft_add_eq_or_of_lt (by omega:v.toNat<2 ^ 13),Nat.shiftLeft_eq];omega
 have e2:(4096:Int).toNat=1 <<< 12:=by decide
 rw[e,e2,Nat.or_assoc,Nat.or_comm v.toNat,←Nat.shiftLeft_add_eq_or_of_lt (by omega:v.toNat<2 ^ 12),←Nat.shiftLeft_add_eq_or_of_lt (by simp[Nat.shiftLeft_eq];omega),Nat.shiftLeft_eq,Nat.shiftLeft_eq]
 omega
def Frame.tag (f:Frame):Int:=f.prio*8192+f.vid+(if f.drop=true then 4096 else 0)
def Frame.bytes (f:Frame):List UInt8:=(beBytes f.dst 6++beBytes f.src 6++(if f.tagged=true then beBytes 33024 2++beBytes f.tag 2 else []))++beBytes f.typ 2++f.data
def Frame.out (f:Frame):V:=if f.wrong=0 then .tuple [.slice (f.bytes.map byteV),.int .i64 0]else .tuple [.slice [],.int .i64 f.wrong]
theorem Frame.right {f:Frame} (h:f.wrong=0):f.dst≤281474976710655∧f.src≤281474976710655∧f.src / 1099511627776 % 2=0∧(f.tagged=true→0≤f.vid∧f.vid≤4094∧0≤f.prio∧f.prio≤7)∧1536≤f.typ∧f.typ≤65535∧f.typ≠33024∧f.data.length≤1500:=by
 unfold Frame.wrong at h
 cases ht:f.tagged<;>simp[ht]at h<;>(repeat' split at h)<;>simp_all<;>omega
set_option maxHeartbeats 1000000 in
theorem frame_Bytes (f:Frame) (hf:f.ok):FnF Tryz.prog 39 [f.v] f.out:=by
 refine fnF_of Tryz.func39 rfl rfl rfl ?_
 simp only[envOf]
 by_cases hw:f.wrong=0
 ·obtain ⟨r1,r2,r3,r4,r5,r6,r7,r8⟩:=Frame.right hw
  have hbits:f.bytes.length≤2000:=by
   unfold Frame.bytes
   split<;>simp[beBytes_len]<;>omega
  cases ht:f.tagged with
  | false =>
   repeat' (first|(apply DW_false rfl;case hb=>exact ht)|(apply DW_false rfl;case hb=>(simp[hw];done))|(apply dt rfl;case h=>exact S_callG0 _ (frame_put_nil f.dst hf.d0 6 (by decide)) rfl rfl (.own _ _))|(refine DW_seal 2 rfl rfl (by simp) ?_;refine DW_ret ?_)|refine qU ?_|((first|apply dX rfl|apply Da rfl rfl|apply Db rfl rfl qN);(focus ((try intro hg);first|exact S_call (frame_Wrong f hf) rfl|exact S_callG1 14 (frame_put f.src hf.s0 6 (by decide) _ (by simp[beBytes_len])) rfl rfl (.own _ _)|exact S_callG1 14 (frame_put 33024 (by decide) 2 (by decide) _ (by simp[beBytes_len])) rfl rfl (.own _ _)|exact S_callG1 14 (frame_put f.typ (by omega) 2 (by decide) _ (by simp[beBytes_len])) rfl rfl (.own _ _)|exact S_appM (f:=byteV) (bs:=f.data) rfl rfl (.dat _ _) rfl rfl (.inr ⟨rfl,inferInstance⟩) rfl (by simp[beBytes_len];omega)|exact qM));constructor)|refine qP ?_)
   refine retN (.tmp rfl (.inl rfl) (.tmp rfl qF .nil)) ?_
   simp only[Frame.out,hw,pack,Frame.bytes,ht,if_true,Bool.false_eq_true,if_false,List.append_nil,List.append_assoc]
  | true =>
   obtain⟨q1,q2,q3,q4⟩:=r4 ht
   cases hd:f.drop with
   | false =>
    have htag:f.prio*8192+f.vid=f.tag:=by simp[Frame.tag,hd]
    have ht0:0≤f.tag:=by rw[←htag];omega
    repeat' (first|(apply DW_true rfl;case hb=>exact ht)|(apply DW_false rfl;case hb=>exact hd)|(apply DW_false rfl;case hb=>(simp[hw];done))|(apply dt rfl;case h=>exact S_callG0 _ (frame_put_nil f.dst hf.d0 6 (by decide)) rfl rfl (.own _ _))|(refine DW_seal 2 rfl rfl (by simp) ?_;refine DW_ret ?_)|refine qU ?_|((first|apply dX rfl|apply Da rfl rfl|apply Db rfl rfl qN);(focus ((try intro hg);first|exact as_int (S_shl rfl rfl (by decide)) (shl_13 q3 q4)|exact as_int (S_or rfl rfl) ((or_13 q3 q4 q1 (by omega)).trans htag)|exact S_callG1 14 (frame_put f.tag ht0 2 (by decide) _ (by simp[beBytes_len])) rfl rfl (.own _ _)|exact S_call (frame_Wrong f hf) rfl|exact S_callG1 14 (frame_put f.src hf.s0 6 (by decide) _ (by simp[beBytes_len])) rfl rfl (.own _ _)|exact S_callG1 14 (frame_put 33024 (by decide) 2 (by decide) _ (by simp[beBytes_len])) rfl rfl (.own _ _)|exact S_callG1 14 (frame_put f.typ (by omega) 2 (by decide) _ (by simp[beBytes_len])) rfl rfl (.own _ _)|exact S_appM (f:=byteV) (bs:=f.data) rfl rfl (.dat _ _) rfl rfl (.inr ⟨rfl,inferInstance⟩) rfl (by simp[beBytes_len];omega)|exact qM));constructor)|refine qP ?_)
    refine retN (.tmp rfl (.inl rfl) (.tmp rfl qF .nil)) ?_
    simp only[Frame.out,hw,pack,Frame.bytes,ht,if_true,List.append_assoc]
   | true =>
    have htag:f.prio*8192+f.vid+4096=f.tag:=by simp[Frame.tag,hd]
    have ht0:0≤f.tag:=by rw[←htag];omega
    repeat' (first|(apply DW_true rfl;case hb=>exact ht)|(apply DW_true rfl;case hb=>exact hd)|(apply DW_false rfl;case hb=>(simp[hw];done))|(apply dt rfl;case h=>exact S_callG0 _ (frame_put_nil f.dst hf.d0 6 (by decide)) rfl rfl (.own _ _))|(refine DW_seal 2 rfl rfl (by simp) ?_;refine DW_ret ?_)|refine qU ?_|((first|apply dX rfl|apply Da rfl rfl|apply Db rfl rfl qN);(focus ((try intro hg);first|exact as_int (S_shl rfl rfl (by decide)) (shl_13 q3 q4)|exact as_int (S_or rfl rfl) (or_13 q3 q4 q1 (by omega))|exact as_int (S_or rfl rfl) ((or_12 q3 q4 q1 (by omega)).trans htag)|exact S_callG1 14 (frame_put f.tag ht0 2 (by decide) _ (by simp[beBytes_len])) rfl rfl (.own _ _)|exact S_call (frame_Wrong f hf) rfl|exact S_callG1 14 (frame_put f.src hf.s0 6 (by decide) _ (by simp[beBytes_len])) rfl rfl (.own _ _)|exact S_callG1 14 (frame_put 33024 (by decide) 2 (by decide) _ (by simp[beBytes_len])) rfl rfl (.own _ _)|exact S_callG1 14 (frame_put f.typ (by omega) 2 (by decide) _ (by simp[beBytes_len])) rfl rfl (.own _ _)|exact S_appM (f:=byteV) (bs:=f.data) rfl rfl (.dat _ _) rfl rfl (.inr ⟨rfl,inferInstance⟩) rfl (by simp[beBytes_len];omega)|exact qM));constructor)|refine qP ?_)
    refine retN (.tmp rfl (.inl rfl) (.tmp rfl qF .nil)) ?_
    simp only[Frame.out,hw,pack,Frame.bytes,ht,if_true,List.append_assoc]
 ·repeat' (first|(apply DW_true rfl;case hb=>(simp[hw];done))|refine qU ?_|((first|apply dX rfl|apply Da rfl rfl|apply Db rfl rfl qN);(focus ((try intro hg);first|exact S_call (frame_Wrong f hf) rfl|exact qM));constructor)|refine qP ?_)
  refine retN (.tmp rfl qF (.tmp rfl qF .nil)) ?_
  simp[Frame.out,hw,pack]
end Go.Proofs.YtcdhlofhhcgohaaGreat
