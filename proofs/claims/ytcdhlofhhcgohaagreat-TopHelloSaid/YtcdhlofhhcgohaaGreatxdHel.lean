/- Contracts: package hello: Wrong; and the document's (hedgeref4). -/
import Derived.Test.YtcdhlofhhcgohaaGreatxdFrm
import Derived.Test.YtcdhlofhhcgohaaGreatxdMds
import Derived.Test.YtcdhlofhhcgohaaGreatxbFz
namespace Go.Proofs.YtcdhlofhhcgohaaGreat
open Go.RowKit
attribute [local irreducible] SStep DW DWin DOps thenQ inBlk loopQ retQ retQG FnF FnG Wk IntKind.wrap IntKind.andI IntKind.orI IntKind.xorI IntKind.andNotI IntKind.shlI IntKind.shrI beBytes byteAt beNum
def Frame.read (b:List UInt8):Option Frame :=
 if b.length<14 then none else
 if beNum ((b.drop 12).take 2)=33024 then
  if b.length<18 then none else
  some ⟨beNum (b.take 6),beNum ((b.drop 6).take 6),true,beNum ((b.drop 14).take 4) / 65536 / 8192,decide (beNum ((b.drop 14).take 4) / 65536 / 4096 % 2=1),beNum ((b.drop 14).take 4) / 65536 % 4096,beNum ((b.drop 14).take 4) % 65536,b.drop 18⟩
 else some ⟨beNum (b.take 6),beNum ((b.drop 6).take 6),false,0,false,0,beNum ((b.drop 12).take 2),b.drop 14⟩
def Frame.parse (b:List UInt8):V:=match Frame.read b with
 | none=>.tuple [Frame.zero.v,.int .i64 2]
 | some f=>if f.wrong=0 then .tuple [f.v,.int .i64 0]else .tuple [Frame.zero.v,.int .i64 f.wrong]
theorem beNum_small : ∀ (l:List UInt8),(l.length≤2→beNum l<65536)∧(l.length≤4→beNum l<4294967296):=fun l=>by
 unfold beNum
 match l with
 | []=>simp
 | [a]=>have:=a.toNat_lt;simp;omega
 | [a,b]=>have:=a.toNat_lt;have:=b.toNat_lt;simp;omega
 | [a,b,c]=>have:=a.toNat_lt;have:=b.toNat_lt;have:=c.toNat_lt;simp;omega
 | [a,b,c,d]=>have:=a.toNat_lt;have:=b.toNat_lt;have:=c.toNat_lt;have:=d.toNat_lt;simp;omega
 | a::b::c::d::e::r=>simp
theorem Frame.read_ok {b:List UInt8} {f:Frame} (hb:b.length≤1048576) (h:Frame.read b=some f):f.ok:=by
 have h1:=beNum_range (b.take 6)
 have h2:=beNum_range ((b.drop 6).take 6)
 have h3:=beNum_range ((b.drop 12).take 2)
 have h4:=beNum_range ((b.drop 14).take 4)
 have h5:=(beNum_small ((b.drop 14).take 4)).2 (by simp;omega)
 have h6:=(beNum_small ((b.drop 12).take 2)).1 (by simp;omega)
 unfold Frame.read at h
 split at h
 ·cases h
 ·split at h
  ·split at h
   ·cases h
   ·injection h with h
    subst h
    constructor<;>simp only<;>first|omega|(simp;omega)
  ·injection h with h
   subst h
   constructor<;>simp only<;>first|omega|(simp;omega)
theorem Frame.ok.nil {f:Frame} (h:f.ok):Frame.ok { f with data := [] }:=⟨h.d0,h.d1,h.s0,h.s1,h.p0,h.p1,h.v0,h.v1,h.t0,h.t1,by simp⟩
theorem and_mask {a:Int} (h:0≤a) (h2:a≤18446744073709551615):IntKind.u64.andI a 4095=a % 4096∧IntKind.u64.andI a 65535=a % 65536:=by
 have hb:IntKind.u64.bits=64:=rfl
 have key:∀ (k:Nat),k≤16→(BitVec.ofInt 64 a &&& BitVec.ofInt 64 ((2 ^ k-1:Nat):Int)).toNat=a.toNat % 2 ^ k:=fun k hk=>by
  have h1:2 ^ k≤2 ^ 16:=Nat.pow_le_pow_right (by decide) hk
  have h2':1≤2 ^ k:=Nat.one_le_two_pow
  rw[BitVec.toNat_and,ofInt_toNat64 h (by omega),ofInt_toNat64 (by omega) (by omega)]
  rw[Int.toNat_natCast,Nat.and_two_pow_sub_one_eq_mod]
 unfold IntKind.andI
 rw[hb]
 have k1:=key 12 (by decide)
 have k2:=key 16 (by decide)
 simp only[show((2 ^ 12-1:Nat):Int)=4095 from rfl]at k1
 simp only[show((2 ^ 16-1:Nat):Int)=65535 from rfl]at k2
 rw[k1,k2,wrap_u64,wrap_u64]
 omega
theorem shr_c {a:Int}:IntKind.u64.shrI a 16=a / 65536∧IntKind.u64.shrI a 13=a / 8192∧IntKind.u64.shrI a 12=a / 4096:=by
 unfold IntKind.shrI
 have e1:(2:Int) ^ (min (16:Int).toNat IntKind.u64.bits)=65536:=by decide
 have e2:(2:Int) ^ (min (13:Int).toNat IntKind.u64.bits)=8192:=by decide
 have e3:(2:Int) ^ (min (12:Int).toNat IntKind.u64.bits)=4096:=by decide
 rw[e1,e2,e3,Int.fdiv_eq_ediv_of_nonneg _ (by decide),Int.fdiv_eq_ediv_of_nonneg _ (by decide),Int.fdiv_eq_ediv_of_nonneg _ (by decide)]
 exact⟨rfl,rfl,rfl⟩
set_option maxHeartbeats 4000000 in
theorem frame_Parse (b:List UInt8) (hb:b.length≤1048576):FnF Tryz.prog 40 [.slice (b.map byteV)] (Frame.parse b):=by
 refine fnF_of Tryz.func40 rfl rfl rfl ?_
 simp only[envOf]
 by_cases h6:b.length<6
 ·have hr:Frame.read b=none:=by unfold Frame.read;rw[if_pos (by omega)]
  repeat' (first|refine DW_loopU ?_|refine DWin_step ?_|refine qU ?_|((first|apply dX rfl|apply Da rfl rfl|apply Db rfl rfl qN);(focus ((try intro hg);first|exact S_callGD (frame_take_no b 6 (by omega) h6 (by decide)) rfl|exact S_al rfl|exact S_bx rfl rfl|exact S_store rfl rfl rfl rfl rfl rfl|exact S_alloc 2001 rfl|exact S_alloc 2002 rfl|exact S_alloc 2003 rfl|exact S_alloc 2004 rfl|exact S_alloc 2005 rfl|(apply Pu.ok;repeat' (first|rfl|exact .inK (by simp only[InK];omega)|exact .wr|constructor|decide|omega))));constructor)|refine qP ?_)
  refine retN (.cellA inferInstance rfl rfl rfl rfl qF (.tmp rfl (.inr (.int _ _)) .nil)) ?_
  simp only[Frame.parse,hr];rfl
 by_cases h12:b.length<12
 ·have hr:Frame.read b=none:=by unfold Frame.read;rw[if_pos (by omega)]
  repeat' (first|refine DW_loopU ?_|refine DWin_step ?_|refine qU ?_|((first|apply dX rfl|apply Da rfl rfl|apply Db rfl rfl qN);(focus ((try intro hg);first|exact S_callGD (frame_take_ok b 6 (by omega) (by omega)) rfl|exact S_callGD (frame_take_no (b.drop 6) 6 (by simp;omega) (by simp;omega) (by decide)) rfl|exact S_al rfl|exact S_bx rfl rfl|exact S_store rfl rfl rfl rfl rfl rfl|exact S_alloc 2001 rfl|exact S_alloc 2002 rfl|exact S_alloc 2003 rfl|exact S_alloc 2004 rfl|exact S_alloc 2005 rfl|(apply Pu.ok;repeat' (first|rfl|exact .inK (by simp only[InK];omega)|exact .wr|constructor|decide|omega))));constructor)|refine qP ?_)
  refine retN (.cellA inferInstance rfl rfl rfl rfl qF (.tmp rfl (.inr (.int _ _)) .nil)) ?_
  simp only[Frame.parse,hr];rfl
 by_cases h14:b.length<14
 ·have hr:Frame.read b=none:=by unfold Frame.read;rw[if_pos (by omega)]
  repeat' (first|refine DW_loopU ?_|refine DWin_step ?_|refine qU ?_|((first|apply dX rfl|apply Da rfl rfl|apply Db rfl rfl qN);(focus ((try intro hg);first|exact S_callGD (frame_take_ok b 6 (by omega) (by omega)) rfl|exact S_callGD (frame_take_ok (b.drop 6) 6 (by simp;omega) (by simp;omega)) rfl|exact S_callGD (frame_take_no ((b.drop 6).drop 6) 2 (by simp;omega) (by simp;omega) (by decide)) rfl|exact S_al rfl|exact S_bx rfl rfl|exact S_store rfl rfl rfl rfl rfl rfl|exact S_alloc 2001 rfl|exact S_alloc 2002 rfl|exact S_alloc 2003 rfl|exact S_alloc 2004 rfl|exact S_alloc 2005 rfl|(apply Pu.ok;repeat' (first|rfl|exact .inK (by simp only[InK];omega)|exact .wr|constructor|decide|omega))));constructor)|refine qP ?_)
  refine retN (.cellA inferInstance rfl rfl rfl rfl qF (.tmp rfl (.inr (.int _ _)) .nil)) ?_
  simp only[Frame.parse,hr];rfl
 have hn0:=beNum_range (((b.drop 6).drop 6).take 2)
 have hn1:=(beNum_small (((b.drop 6).drop 6).take 2)).1 (by simp;omega)
 by_cases ht:beNum (((b.drop 6).drop 6).take 2)=33024
 ·by_cases h18:b.length<18
  ·have hr:Frame.read b=none:=by
    unfold Frame.read
    rw[if_neg (by omega),if_pos (by simpa[List.drop_drop]using ht),if_pos h18]
   repeat' (first|refine DW_loopU ?_|refine DWin_step ?_|(apply DW_true rfl;case hb=>exact decide_eq_true ht)|refine qU ?_|((first|apply dX rfl|apply Da rfl rfl|apply Db rfl rfl qN);(focus ((try intro hg);first|exact S_callGD (frame_take_ok b 6 (by omega) (by omega)) rfl|exact S_callGD (frame_take_ok (b.drop 6) 6 (by simp;omega) (by simp;omega)) rfl|exact S_callGD (frame_take_ok ((b.drop 6).drop 6) 2 (by simp;omega) (by simp;omega)) rfl|exact S_callGD (frame_take_no (((b.drop 6).drop 6).drop 2) 4 (by simp;omega) (by simp;omega) (by decide)) rfl|exact S_al rfl|exact S_bx rfl rfl|exact S_store rfl rfl rfl rfl rfl rfl|exact S_alloc 2001 rfl|exact S_alloc 2002 rfl|exact S_alloc 2003 rfl|exact S_alloc 2004 rfl|exact S_alloc 2005 rfl|(apply Pu.ok;repeat' (first|rfl|exact .inK (by simp only[InK];omega)|exact .wr|constructor|decide|omega))));constructor)|refine qP ?_)
   refine retN (.cellA inferInstance rfl rfl rfl rfl qF (.tmp rfl (.inr (.int _ _)) .nil)) ?_
   simp only[Frame.parse,hr];rfl
  ·have hm0:=beNum_range ((((b.drop 6).drop 6).drop 2).take 4)
   have hm1:=(beNum_small ((((b.drop 6).drop 6).drop 2).take 4)).2 (by simp;omega)
   have hr:Frame.read b=some ⟨beNum (b.take 6),beNum ((b.drop 6).take 6),true,beNum ((((b.drop 6).drop 6).drop 2).take 4) / 65536 / 8192,decide (beNum ((((b.drop 6).drop 6).drop 2).take 4) / 65536 / 4096 % 2=1),beNum ((((b.drop 6).drop 6).drop 2).take 4) / 65536 % 4096,beNum ((((b.drop 6).drop 6).drop 2).take 4) % 65536,((((b.drop 6).drop 6).drop 2).drop 4)⟩:=by
    unfold Frame.read
    rw[if_neg (by omega),if_pos (by simpa[List.drop_drop]using ht),if_neg h18]
    simp only[List.drop_drop]
   have hok:=Frame.read_ok hb hr
   have t4:=frame_take_ok (((b.drop 6).drop 6).drop 2) 4 (by simp;omega) (by simp;omega)
   have hrl:((((b.drop 6).drop 6).drop 2).drop 4).length≤1048576:=by simp;omega
   generalize beNum ((((b.drop 6).drop 6).drop 2).take 4)=n at hm0 hm1 hr hok t4
   generalize (((b.drop 6).drop 6).drop 2).drop 4=rest at hr hok t4 hrl
   have hok0:=Frame.ok.nil hok
   repeat' (first|(apply DW_true rfl;case hb=>exact decide_eq_true ht)|refine DW_loopU ?_|refine DWin_step ?_|refine qU ?_|refine DW_cond rfl (fun hb=>?_) (fun hb=>?_)|(apply dt rfl;case h=>first|exact S_appND (f:=byteV) (bs:=rest) (nf:=true) rfl (.dat _ _) rfl (.inr inferInstance) rfl (by omega))|((first|apply dX rfl|apply Da rfl rfl|apply Db rfl rfl qN);(focus ((try intro hg);first|exact S_callGD t4 rfl|exact as_int (S_shr rfl rfl (by decide)) shr_c.1|exact as_int (S_shr rfl rfl (by decide)) shr_c.2.1|exact as_int (S_shr rfl rfl (by decide)) shr_c.2.2|exact as_int (S_and rfl rfl) (and_one (by omega) (by omega))|exact as_int (S_and rfl rfl) (and_mask (by omega) (by omega)).1|exact as_int (S_and rfl rfl) (and_mask (by omega) (by omega)).2|exact S_callGD (frame_take_ok b 6 (by omega) (by omega)) rfl|exact S_callGD (frame_take_ok (b.drop 6) 6 (by simp;omega) (by simp;omega)) rfl|exact S_callGD (frame_take_ok ((b.drop 6).drop 6) 2 (by simp;omega) (by simp;omega)) rfl|exact S_appND (f:=byteV) (bs:=rest) (nf:=true) rfl (.dat _ _) rfl (.inr inferInstance) rfl (by omega)|exact S_call (frame_Wrong _ hok) rfl|exact S_call (frame_Wrong _ hok0) rfl|exact S_al rfl|exact S_bx rfl rfl|exact S_store rfl rfl rfl rfl rfl rfl|exact S_alloc 2001 rfl|exact S_alloc 2002 rfl|exact S_alloc 2003 rfl|exact S_alloc 2004 rfl|exact S_alloc 2005 rfl|(apply Pu.ok;repeat' (first|rfl|exact .inK (by simp only[InK];omega)|exact .wr|constructor|decide|omega))));constructor)|refine qP ?_)
   ·refine retN (.cellA inferInstance rfl rfl rfl rfl (.inl rfl) (.tmp rfl (.inr (.int _ _)) .nil)) ?_
    simp at hb
    simp only[Frame.parse,hr,if_neg hb];rfl
   ·refine retN (.cellA inferInstance rfl rfl rfl rfl (.inl rfl) (.tmp rfl (.inr (.int _ _)) .nil)) ?_
    simp at hb
    simp only[Frame.parse,hr,if_pos hb];rfl
   ·rename_i h0
    have h0:rest=[]:=by simpa using h0
    subst h0
    refine retN (.cellA inferInstance rfl rfl rfl rfl (.inl rfl) (.tmp rfl (.inr (.int _ _)) .nil)) ?_
    simp at hb
    simp only[Frame.parse,hr,if_neg hb];rfl
   ·rename_i h0
    have h0:rest=[]:=by simpa using h0
    subst h0
    refine retN (.cellA inferInstance rfl rfl rfl rfl (.inl rfl) (.tmp rfl (.inr (.int _ _)) .nil)) ?_
    simp at hb
    simp only[Frame.parse,hr,if_pos hb];rfl
 ·have hr:Frame.read b=some ⟨beNum (b.take 6),beNum ((b.drop 6).take 6),false,0,false,0,beNum (((b.drop 6).drop 6).take 2),((b.drop 6).drop 6).drop 2⟩:=by
   unfold Frame.read
   rw[if_neg (by omega),if_neg (by simpa[List.drop_drop]using ht)]
   simp only[List.drop_drop]
  have hok:=Frame.read_ok hb hr
  have t3:=frame_take_ok ((b.drop 6).drop 6) 2 (by simp;omega) (by simp;omega)
  have hrl:(((b.drop 6).drop 6).drop 2).length≤1048576:=by simp;omega
  generalize beNum (((b.drop 6).drop 6).take 2)=n at hn0 hn1 hr hok t3 ht
  generalize ((b.drop 6).drop 6).drop 2=rest at hr hok t3 hrl
  have hok0:=Frame.ok.nil hok
  repeat' (first|(apply DW_false rfl;case hb=>exact decide_eq_false ht)|refine DW_loopU ?_|refine DWin_step ?_|refine qU ?_|refine DW_cond rfl (fun hb=>?_) (fun hb=>?_)|(apply dt rfl;case h=>first|exact S_appND (f:=byteV) (bs:=rest) (nf:=true) rfl (.dat _ _) rfl (.inr inferInstance) rfl (by omega))|((first|apply dX rfl|apply Da rfl rfl|apply Db rfl rfl qN);(focus ((try intro hg);first|exact S_callGD t3 rfl|exact S_callGD (frame_take_ok b 6 (by omega) (by omega)) rfl|exact S_callGD (frame_take_ok (b.drop 6) 6 (by simp;omega) (by simp;omega)) rfl|exact S_callGD (frame_take_ok ((b.drop 6).drop 6) 2 (by simp;omega) (by simp;omega)) rfl|exact S_appND (f:=byteV) (bs:=rest) (nf:=true) rfl (.dat _ _) rfl (.inr inferInstance) rfl (by omega)|exact S_call (frame_Wrong _ hok) rfl|exact S_call (frame_Wrong _ hok0) rfl|exact S_al rfl|exact S_bx rfl rfl|exact S_store rfl rfl rfl rfl rfl rfl|exact S_alloc 2001 rfl|exact S_alloc 2002 rfl|exact S_alloc 2003 rfl|exact S_alloc 2004 rfl|exact S_alloc 2005 rfl|(apply Pu.ok;repeat' (first|rfl|exact .inK (by simp only[InK];omega)|exact .wr|constructor|decide|omega))));constructor)|refine qP ?_)
  ·refine retN (.cellA inferInstance rfl rfl rfl rfl (.inl rfl) (.tmp rfl (.inr (.int _ _)) .nil)) ?_
   simp at hb
   simp only[Frame.parse,hr,if_neg hb];rfl
  ·refine retN (.cellA inferInstance rfl rfl rfl rfl (.inl rfl) (.tmp rfl (.inr (.int _ _)) .nil)) ?_
   simp at hb
   simp only[Frame.parse,hr,if_pos hb];rfl
  ·rename_i h0
   have h0:rest=[]:=by simpa using h0
   subst h0
   refine retN (.cellA inferInstance rfl rfl rfl rfl (.inl rfl) (.tmp rfl (.inr (.int _ _)) .nil)) ?_
   simp at hb
   simp only[Frame.parse,hr,if_neg hb];rfl
  ·rename_i h0
   have h0:rest=[]:=by simpa using h0
   subst h0
   refine retN (.cellA inferInstance rfl rfl rfl rfl (.inl rfl) (.tmp rfl (.inr (.int _ _)) .nil)) ?_
   simp at hb
   simp only[Frame.parse,hr,if_pos hb];rfl
end Go.Proofs.YtcdhlofhhcgohaaGreat
namespace Go.Proofs.YtcdhlofhhcgohaaGreat
open Go.RowKit
def Frame.back (f:Frame):Frame := { f with prio:=if f.tagged=true then f.prio else 0,drop:=if f.tagged=true then f.drop else false,vid:=if f.tagged=true then f.vid else 0 }
theorem Frame.back_wrong (f:Frame):f.back.wrong=f.wrong:=by
 cases h:f.tagged<;>simp[Frame.wrong,Frame.back,h]
theorem Frame.bytes_len (f:Frame):f.bytes.length=14+f.data.length+(if f.tagged=true then 4 else 0):=by
 unfold Frame.bytes
 cases f.tagged<;>simp[beBytes_len]<;>omega
theorem Frame.read_bytes (f:Frame) (hf:f.ok) (hw:f.wrong=0):Frame.read f.bytes=some f.back:=by
 obtain⟨r1,r2,r3,r4,r5,r6,r7,r8⟩:=Frame.right hw
 have hd0:=hf.d0
 have hs0:=hf.s0
 have hlen:=f.bytes_len
 have d6:∀ n:Int,n≤281474976710655→n<256 ^ 6:=fun n h=>by
  have:(256:Int) ^ 6=281474976710656:=by decide
  omega
 have nd:=num_be 6 f.dst hd0 (d6 _ r1) (by decide)
 have ns:=num_be 6 f.src hs0 (d6 _ r2) (by decide)
 have ld:=beBytes_len f.dst 6
 have ls:=beBytes_len f.src 6
 have e0:f.bytes=beBytes f.dst 6++(beBytes f.src 6++((if f.tagged=true then beBytes 33024 2++beBytes f.tag 2 else [])++beBytes f.typ 2++f.data)):=by
  unfold Frame.bytes;simp only[List.append_assoc]
 obtain⟨t1,t2⟩:=append_of e0 ld
 obtain⟨t3,t4⟩:=append_of t2 ls
 rw[List.drop_drop]at t4
 unfold Frame.read
 rw[t1,t3,nd,ns,if_neg (by omega)]
 cases ht:f.tagged with
 | false =>
  rw[ht]at t4 hlen
  simp only[Bool.false_eq_true,if_false,List.nil_append]at t4
  obtain⟨t5,t6⟩:=append_of t4 (beBytes_len _ _)
  rw[List.drop_drop]at t6
  rw[t5,t6,num_be 2 f.typ (by omega) (by omega) (by decide),if_neg r7]
  simp[Frame.back,ht]
 | true =>
  obtain⟨q1,q2,q3,q4⟩:=r4 ht
  rw[ht]at t4 hlen
  simp only[if_true,List.append_assoc]at t4 hlen
  obtain⟨t5,t6⟩:=append_of t4 (beBytes_len _ _)
  rw[List.drop_drop,←List.append_assoc]at t6
  obtain⟨t7,t8⟩:=append_of t6 (k:=4) (by simp[beBytes_len])
  rw[List.drop_drop]at t8
  have htag:0≤f.tag∧f.tag<65536∧f.tag / 8192=f.prio∧f.tag % 4096=f.vid∧(f.tag / 4096 % 2=1↔f.drop=true):=by
   unfold Frame.tag
   cases f.drop<;>simp<;>omega
  obtain⟨g1,g2,g3,g4,g5⟩:=htag
  rw[t5,t7,t8,num_be 2 33024 (by decide) (by decide) (by decide),if_pos rfl,if_neg (by omega),beNum_22 g1 g2 (by omega) (by omega)]
  have k1:(f.tag*65536+f.typ) / 65536=f.tag:=by omega
  have k2:(f.tag*65536+f.typ) % 65536=f.typ:=by omega
  have k3:decide (f.tag / 4096 % 2=1)=f.drop:=by
   cases hd:f.drop with
   | true=>exact decide_eq_true (g5.2 hd)
   | false=>exact decide_eq_false (fun h=>by rw[g5.1 h]at hd;cases hd)
  rw[k1,k2,k3,g3,g4]
  simp[Frame.back,ht]
end Go.Proofs.YtcdhlofhhcgohaaGreat
namespace Go.Proofs.YtcdhlofhhcgohaaGreat
open Go.RowKit
attribute [local irreducible] SStep DW DWin DOps thenQ inBlk loopQ retQ retQG FnF FnG Wk IntKind.wrap IntKind.andI IntKind.orI IntKind.xorI IntKind.andNotI IntKind.shlI IntKind.shrI beBytes byteAt beNum Frame.wrong Frame.bytes Frame.read Frame.same
def Frame.outB (f:Frame):List UInt8:=if f.wrong=0 then f.bytes else []
def Frame.pF (b:List UInt8):Frame:=match Frame.read b with|none=>.zero|some f=>if f.wrong=0 then f else .zero
def Frame.pE (b:List UInt8):Int:=match Frame.read b with|none=>2|some f=>f.wrong
theorem Frame.out_eq (f:Frame):f.out = .tuple [.slice (f.outB.map byteV),.int .i64 f.wrong]:=by
 unfold Frame.out Frame.outB
 by_cases h:f.wrong=0<;>simp[h]
theorem Frame.parse_eq (b:List UInt8):Frame.parse b = .tuple [(Frame.pF b).v,.int .i64 (Frame.pE b)]:=by
 unfold Frame.parse Frame.pF Frame.pE
 cases Frame.read b with
 | none=>rfl
 | some f=>by_cases h:f.wrong=0<;>simp[h]
theorem Frame.outB_len (f:Frame):f.outB.length≤1518:=by
 unfold Frame.outB
 split
 ·rename_i h
  obtain⟨_,_,_,_,_,_,_,r8⟩:=Frame.right h
  rw[f.bytes_len]
  split<;>omega
 ·simp
theorem Frame.outB_back {f:Frame} (hf:f.ok) (hw:f.wrong=0):Frame.pF f.outB=f.back∧Frame.pE f.outB=0:=by
 unfold Frame.pF Frame.pE Frame.outB
 rw[if_pos hw,Frame.read_bytes f hf hw]
 simp only[Frame.back_wrong,hw,if_true,and_self]
theorem fBytes (f:Frame) (hf:f.ok):FnF Tryz.prog 39 [f.v] (.tuple [.slice (f.outB.map byteV),.int .i64 f.wrong]):=Frame.out_eq f▸frame_Bytes f hf
theorem fParse (b:List UInt8) (hb:b.length≤1048576):FnF Tryz.prog 40 [.slice (b.map byteV)] (.tuple [(Frame.pF b).v,.int .i64 (Frame.pE b)]):=Frame.parse_eq b▸frame_Parse b hb
end Go.Proofs.YtcdhlofhhcgohaaGreat
namespace Go.Proofs.YtcdhlofhhcgohaaGreat
open Go.RowKit
attribute [local irreducible] SStep DW DWin DOps thenQ inBlk loopQ retQ retQG FnF FnG Wk IntKind.wrap IntKind.andI IntKind.orI IntKind.xorI IntKind.andNotI IntKind.shlI IntKind.shrI beBytes byteAt beNum
structure Tale where
 tree:Int
 root:Int
 cost:Int
 bridge:Int
 port:Int
 age:Int
def Tale.vcells (t:Tale):List V := [.int .u64 t.root,.int .i64 t.cost,.int .u64 t.bridge,.int .i64 t.port]
def Tale.cells (t:Tale):List V := [.int .i64 t.tree,.int .u64 t.root,.int .i64 t.cost,.int .u64 t.bridge,.int .i64 t.port,.int .i64 t.age]
instance : CellsI Tale.cells 6:=⟨fun _=>rfl,fun t d h=>by
 simp only[Tale.cells,List.mem_cons,List.mem_nil_iff,or_false]at h
 rcases h with rfl|rfl|rfl|rfl|rfl|rfl<;>rfl⟩
instance : FlatI Tale.cells:=⟨fun t d h=>by
 simp only[Tale.cells,List.mem_cons,List.mem_nil_iff,or_false]at h
 rcases h with rfl|rfl|rfl|rfl|rfl|rfl<;>exact .int _ _⟩
structure Hello where
 digest:List UInt8
 tales:List Tale
def Hello.cells (h:Hello):List V := [.slice (h.digest.map byteV),.slice (h.tales.map Tale.cells)]
def Hello.v (h:Hello):V := .agg h.cells
def Hello.zero : Hello:=⟨[],[]⟩
def Tale.bad (t:Tale):Prop:=t.tree<0∨15<t.tree∨t.age<0∨255<t.age∨t.cost<0∨1000000000<t.cost∨t.port<0∨30<t.port
instance instBadTale (t:Tale):Decidable t.bad:=by unfold Tale.bad;infer_instance
def talesW (last:Int):List Tale→Int
 | []=>0
 | t::r=>if t.bad then 3 else if t.tree≤last then 2 else talesW t.tree r
def Hello.wrong (h:Hello):Int:=if h.digest.length=16 then talesW (-1) h.tales else 2
def Tale.vecE (t:Tale):Int:=if t.cost<0∨1000000000<t.cost∨t.port<0∨30<t.port then 3 else 0
theorem hello_vec (t:Tale):FnF Tryz.prog 130 [.agg t.vcells] (.int .i64 t.vecE):=by
 refine fnF_of Tryz.func130 rfl rfl rfl ?_
 simp only[envOf]
 repeat' (first|refine qU ?_|refine DW_cond rfl (fun hb=>?_) (fun hb=>?_)|((first|apply dX rfl|apply Da rfl rfl|apply Db rfl rfl qN);(focus ((try intro hg);first|exact qM));constructor)|refine qP ?_)
 all_goals (refine ret1 rfl (.inl rfl) ?_;simp at hb;unfold Tale.vecE;congr 1)
 ·rw[if_pos (by omega)]
 ·rw[if_neg (by omega)]
def lastAt (ts:List Tale):Nat→Int
 | 0 => -1
 | k+1=>(ts[k]?.map Tale.tree).getD (-1)
set_option maxHeartbeats 1000000 in
theorem hello_Wrong (h:Hello) (hl:h.tales.length≤1099511627776):FnF Tryz.prog 79 [h.v] (.int .i64 h.wrong):=by
 refine fnF_of Tryz.func79 rfl rfl rfl ?_
 simp only[envOf]
 have hm:(h.digest.map byteV).length=h.digest.length:=by simp
 by_cases hd:h.digest.length=16
 ·have hne:decide (((h.digest.map byteV).length:Int)≠16)=false:=decide_eq_false (by omega)
  repeat' (first|refine qU ?_|((first|apply dX rfl|apply Da rfl rfl|apply Db rfl rfl qN);(focus ((try intro hg);first|exact as_bool (S_neq rfl rfl) hne|exact qM));constructor)|refine qP ?_)
  have hml:(h.tales.map Tale.cells).length=h.tales.length:=by simp
  refine DW_loop (fun k:Nat=>⟨[(1,.ptr 1 0),(11,.dat false (.slice (h.tales.map Tale.cells))),(12,.dat true (.int .i64 (h.tales.map Tale.cells).length)),(13,.dat true (.int .i64 k))],[(1,.cells false true (h.cells.map (.dat false)))],57⟩)
   (fun k=>k≤h.tales.length∧talesW (-1) h.tales=talesW (lastAt h.tales k) (h.tales.drop k)) (fun k=>h.tales.length-k) 0 ⟨Nat.zero_le _,rfl⟩
   (Wk_g some rfl rfl kq) (fun k hR=>?_)
  obtain⟨hk,hw⟩:=hR
  by_cases hlt:k<h.tales.length
  ·have hx:h.tales[(k:Int).toNat]? = some h.tales[k]:=by simp[hlt]
   have hn:h.tales.drop k=h.tales[k]::h.tales.drop (k+1):=List.drop_eq_getElem_cons hlt
   have hlast:lastAt h.tales (k+1)=(h.tales[k]).tree:=by simp[lastAt,hlt]
   generalize h.tales[k]=t at hx hn hlast
   rw[hn,talesW]at hw
   rcases k with - | j
   ·have h0:lastAt h.tales 0 = -1:=rfl
    repeat' (first|(apply DW_true rfl;case hb=>(first|(simp;omega)|(simp;done)))|refine qU ?_|refine DW_cond rfl (fun hb=>?_) (fun hb=>?_)|((first|apply dX rfl|apply Da rfl rfl|apply Db rfl rfl qN);(focus ((try intro hg);first|exact S_ixM rfl rfl (by omega) hx|exact as_bool (b:=false) (S_gtr rfl rfl) rfl|exact S_call (hello_vec t) rfl|exact qM));constructor)|refine qP ?_)
    ·refine ret1 rfl (.inl rfl) ?_
     simp at hb
     congr 1;unfold Hello.wrong
     rw[if_pos hd,hw,if_pos (by unfold Tale.bad;omega)]
    ·refine ret1 rfl (.inl rfl) ?_
     simp at hb
     congr 1;unfold Hello.wrong
     unfold Tale.vecE at hb ⊢
     split at hb
     ·rename_i hv
      rw[if_pos hd,hw,if_pos hv,if_pos (by unfold Tale.bad;omega)]
     ·exact absurd rfl hb
    ·rename_i hb1
     simp at hb hb1
     unfold Tale.vecE at hb
     split at hb
     ·cases hb
     ·rename_i hv
      refine loop_again (0+1) ⟨hlt,?_⟩ (by omega) (Wk_g some rfl rfl kq)
      rw[hw,if_neg (by unfold Tale.bad;omega),h0,if_neg (by omega),hlast]
   ·have hj:j<h.tales.length:=by omega
    have hx2:h.tales[(((j+1:Nat):Int)-1).toNat]? = some h.tales[j]:=by
     rw[show(((j+1:Nat):Int)-1).toNat=j by omega];exact List.getElem?_eq_getElem hj
    have h0:lastAt h.tales (j+1)=(h.tales[j]).tree:=by simp[lastAt,hj]
    generalize h.tales[j]=q at hx2 h0
    repeat' (first|(apply DW_true rfl;case hb=>(first|(simp;omega)|(simp;done)))|refine qU ?_|refine DW_cond rfl (fun hb=>?_) (fun hb=>?_)|((first|apply dX rfl|apply Da rfl rfl|apply Db rfl rfl qN);(focus ((try intro hg);first|exact S_ixM rfl rfl (by omega) hx|exact S_ixM rfl rfl (by omega) hx2|exact as_bool (S_gtr rfl rfl) (decide_eq_true (by omega:(0:Int)<((j+1:Nat):Int)))|exact S_call (hello_vec t) rfl|exact qM));constructor)|refine qP ?_)
    ·refine ret1 rfl (.inl rfl) ?_
     simp at hb
     congr 1;unfold Hello.wrong
     rw[if_pos hd,hw,if_pos (by unfold Tale.bad;omega)]
    ·refine ret1 rfl (.inl rfl) ?_
     simp at hb
     congr 1;unfold Hello.wrong
     unfold Tale.vecE at hb ⊢
     split at hb
     ·rename_i hv
      rw[if_pos hd,hw,if_pos hv,if_pos (by unfold Tale.bad;omega)]
     ·exact absurd rfl hb
    ·rename_i hb2 hb1
     simp at hb hb1 hb2
     unfold Tale.vecE at hb1
     split at hb1
     ·cases hb1
     ·rename_i hv
      refine ret1 rfl (.inl rfl) ?_
      congr 1;unfold Hello.wrong
      rw[if_pos hd,hw,if_neg (by unfold Tale.bad;omega),h0,if_pos (by omega)]
    ·rename_i hb2 hb1
     simp at hb hb1 hb2
     unfold Tale.vecE at hb1
     split at hb1
     ·cases hb1
     ·rename_i hv
      refine loop_again (j+1+1) ⟨hlt,?_⟩ (by omega) (Wk_g some rfl rfl kq)
      rw[hw,if_neg (by unfold Tale.bad;omega),h0,if_neg (by omega),hlast]
  ·repeat' (first|(apply DW_false rfl;case hb=>(first|(simp;omega)|(simp;done)))|refine qU ?_|((first|apply dX rfl|apply Da rfl rfl|apply Db rfl rfl qN);(focus ((try intro hg);first|exact qM));constructor)|refine qP ?_)
   refine ret1 rfl (.inl rfl) ?_
   unfold Hello.wrong
   rw[if_pos hd,hw,List.drop_eq_nil_of_le (by omega)]
   rfl
 ·have hne:decide (((h.digest.map byteV).length:Int)≠16)=true:=decide_eq_true (by omega)
  repeat' (first|refine qU ?_|((first|apply dX rfl|apply Da rfl rfl|apply Db rfl rfl qN);(focus ((try intro hg);first|exact as_bool (S_neq rfl rfl) hne|exact qM));constructor)|refine qP ?_)
  refine ret1 rfl (.inr (.int _ _)) ?_
  unfold Hello.wrong
  rw[if_neg hd]
end Go.Proofs.YtcdhlofhhcgohaaGreat
