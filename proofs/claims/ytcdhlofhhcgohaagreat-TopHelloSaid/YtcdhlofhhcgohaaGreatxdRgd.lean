/- Contracts: digests and identities of regions. -/
import Derived.Test.YtcdhlofhhcgohaaGreatxdMdt
import Derived.Test.YtcdhlofhhcgohaaGreatxcSrt
import Derived.Test.YtcdhlofhhcgohaaGreatxcMd5
namespace Go.Proofs.YtcdhlofhhcgohaaGreat
open Go.RowKit
def macK (key:List UInt8):List UInt8:=if 64<key.length then md5S key else key
def baseK (key:List UInt8):List UInt8:=key++List.replicate (64-key.length) 0
def padK (key:List UInt8) (w:UInt8):List UInt8:=(baseK key).map (· ^^^ w)
def macS (key b:List UInt8):List UInt8:=md5S (padK (macK key) 92++md5S (padK (macK key) 54++b))
theorem macK_le (key:List UInt8):(macK key).length≤64:=by
 unfold macK;split
 ·rw[md5S_len];decide
 ·omega
theorem baseK_len {key:List UInt8} (h:key.length≤64):(baseK key).length=64:=by simp[baseK];omega
theorem padK_len {key:List UInt8} (h:key.length≤64) (w:UInt8):(padK key w).length=64:=by unfold padK;rw[List.length_map,baseK_len h]
theorem xor_u8 (c w:UInt8):IntKind.u8.xorI (c.toNat:Int) (w.toNat:Int)=((c ^^^ w).toNat:Int):=by
 unfold IntKind.xorI
 have hb:IntKind.u8.bits=8:=rfl
 have hc:=c.toNat_lt
 have hw:=w.toNat_lt
 have e1:(BitVec.ofInt 8 (c.toNat:Int) ^^^ BitVec.ofInt 8 (w.toNat:Int)).toNat=c.toNat ^^^ w.toNat:=by
  rw[BitVec.toNat_xor]
  congr 1
  ·simp[]
  ·simp[]
 have h3:c.toNat ^^^ w.toNat<2 ^ 8:=Nat.xor_lt_two_pow hc hw
 rw[hb,e1,wrap_u8,UInt8.toNat_xor]
 omega
def mixK (base:List UInt8) (w:UInt8) (k:Nat):List UInt8:=(base.take k).map (· ^^^ w)++base.drop k
theorem mixK_at {base:List UInt8} {w:UInt8} {k:Nat} (h:k<base.length):(mixK base w k)[k]? = some base[k]:=by
 unfold mixK
 rw[List.getElem?_append_right (by simp;omega)]
 simp[Nat.min_eq_left (Nat.le_of_lt h)]
theorem mixK_set {base:List UInt8} {w:UInt8} {k:Nat} (h:k<base.length):(mixK base w k).set k (base[k] ^^^ w)=mixK base w (k+1):=by
 unfold mixK
 have hl:((base.take k).map (· ^^^ w)).length=k:=by simp;omega
 rw[List.set_append_right _ _ (by omega),hl,Nat.sub_self,List.drop_eq_getElem_cons h,List.set_cons_zero,List.take_succ_eq_append_getElem h,List.map_append,List.append_assoc]
 rfl
section
variable {P : Program} {e : Operand → D} {m : Mem} {dst : Option Tmp} {ty : TypeId} {pos : String} {af : Array Edge} {gd : Option (Nat × Bool)} {x y : Operand} {t ts : TypeId}
theorem S_copyM {α:Type} {f:α→List V} {us bs:List α} {g ver len s by_ el:Nat} {agg nw n nf:Bool} {zs:List V} [hu:SlcI P t el] [ht:TyI P el agg s by_ zs] [hf:CellsI f s] [hfl:FlatI f] (hs:Nat.blt 0 s=true) (h1:e x = .own g ver 0 len) (hmg:m.at g = .row ver false nw s (us.map f)) (hlx:len=us.length)
  (h2:e y = .dat n (.slice (bs.map f))) (hnf:nf=nw) :
  SStep P ⟨dst,.call { callee := .builtin .copy,args := #[x,y],argTypes := #[t,ts] },ty,pos,af,gd⟩ e m (g::refs0 (e y)) (.dat true (.int .i64 (min bs.length len:Nat))) [(g,.row ver false nf s ((bs.take len++us.drop bs.length).map f))]:=by
 have hs':0<s:=by simpa[Nat.blt_eq]using hs
 have hl:(us.map f).length=us.length:=by simp
 have hb:(bs.map f).length=bs.length:=by simp
 have:=S_copy (P:=P) (m:=m) (t:=t) (ts:=ts) (el:=el) (by_:=by_) (zs:=zs) (agg:=agg) (dst:=dst) (ty:=ty) (pos:=pos) (af:=af) (gd:=gd) (nf:=true) (n:=n) (els:=bs.map f) hs' h1 hmg (by rw[hl];exact hlx)
  (by rw[h2];exact .dat n _ s (map_len bs)) (map_el bs) (.inr (fun e he d hd=>map_flat bs e he d hd)) (fun v lo l h=>by rw[h2]at h;cases h)
 rw[hb,Bool.and_true,←List.map_take,←List.map_drop,←List.map_append]at this
 rw[hnf]
 exact this
end
attribute [local irreducible] SStep DW DWin DOps thenQ inBlk loopQ retQ retQG FnF FnG Wk IntKind.wrap IntKind.andI IntKind.orI IntKind.xorI IntKind.andNotI IntKind.shlI IntKind.shrI md5S padK
set_option maxHeartbeats 1000000 in
theorem md5_pad (key:List UInt8) (hk:key.length≤64) (w:UInt8):FnG Tryz.prog 129 [.dat false (.int .u8 w.toNat),.dat false (.rp [.slice (key.map byteV)])] [] (.own 1000 0 0 64) [(1000,.row 0 false true 1 ((padK key w).map byteV))]:=by
 refine fnG_of Tryz.func129 rfl rfl rfl ?_
 simp only[envD]
 have hbl:=baseK_len hk
 have hbase:key.take 64++(List.replicate 64 0).drop key.length=baseK key:=by
  unfold baseK;rw[List.take_of_length_le hk,List.drop_replicate]
 repeat' (first|(apply dt rfl;case h=>exact S_mkM (f:=byteV) (l:=64) (c:=64) (0:UInt8) _ rfl rfl rfl rfl (Nat.le_refl _) (by decide) rfl rfl)|refine qU ?_|((first|apply dX rfl|apply Da rfl rfl|apply Db rfl rfl qN);(focus ((try intro hg);first|exact S_copyM (f:=byteV) (us:=List.replicate 64 0) (bs:=key) rfl rfl rfl rfl rfl rfl|exact qM));constructor)|refine qP ?_)
 rw[hbase]
 obtain⟨base,hb⟩:∃ base,base=baseK key:=⟨_,rfl⟩
 rw[←hb]at hbl ⊢
 have hpad:padK key w=mixK base w 64:=by
  unfold padK mixK;rw[←hb,List.take_of_length_le (by omega),List.drop_eq_nil_of_le (by omega)];simp
 rw[hpad]
 refine DW_loop (fun p:Nat×List UInt8=>⟨[(0,.dat false (.int .u8 w.toNat)),(4,.own 6 0 0 64),(11,.dat true (.int .i64 64)),(12,.dat true (.int .i64 p.1))],[(6,.row 0 false true 1 (p.2.map byteV))],24⟩)
  (fun p=>p.1≤64∧p.2=mixK base w p.1) (fun p=>64-p.1) (0,base) ⟨Nat.zero_le _,by simp[mixK]⟩
  (Wk_g some rfl rfl kq) (fun p hR=>?_)
 obtain⟨k,us⟩:=p
 obtain⟨hk,hus⟩:=hR
 simp only at hk hus
 dsimp only
 by_cases hlt:k<64
 ·have hx0:us[(k:Int).toNat]? = some (base[k]'(by omega)):=by rw[hus,Int.toNat_natCast];exact mixK_at (by omega)
  have hx1:(us.map byteV)[(k:Int).toNat]? = some (byteV (base[k]'(by omega))):=by rw[List.getElem?_map,hx0];rfl
  have hset:us.set (k:Int).toNat (base[k]'(by omega) ^^^ w)=mixK base w (k+1):=by rw[hus,Int.toNat_natCast];exact mixK_set (by omega)
  generalize base[k]'(by omega)=c at hx0 hx1 hset
  repeat' (first|refine qU ?_|((first|apply dX rfl|apply Da rfl rfl|apply Db rfl rfl qN);(focus ((try intro hg);first|exact as_bool (S_lss rfl rfl) (decide_eq_true (by omega:(k:Int)<64))|exact S_ixO rfl rfl rfl (by omega) (by omega)|exact S_load_rptr rfl rfl hx1 rfl|exact as_int (S_xor rfl rfl) (xor_u8 c w)|exact S_storeM (f:=byteV) (a:=c ^^^ w) rfl rfl hx0 rfl rfl (.inr ⟨rfl,inferInstance⟩) rfl rfl|exact qM));constructor)|refine qP ?_)
  exact loop_again (k+1,us.set (k:Int).toNat (c ^^^ w)) ⟨hlt,hset⟩ (by simp only;omega) (Wk_g some rfl rfl kq)
 ·have hk64:k=64:=by omega
  subst hk64
  rw[←hus]
  repeat' (first|refine qU ?_|((first|apply dX rfl|apply Da rfl rfl|apply Db rfl rfl qN);(focus ((try intro hg);first|exact as_bool (S_lss rfl rfl) (decide_eq_false (by omega:¬((64:Nat):Int)<64))|exact qM));constructor)|refine qP ?_)
  exact gOwn (Wk_g (fun g=>if g=1000 then some 6 else none) rfl rfl kq)
end Go.Proofs.YtcdhlofhhcgohaaGreat
namespace Go.Proofs.YtcdhlofhhcgohaaGreat
open Go.RowKit
theorem md5_SumF (b:List UInt8) (hb:b.length≤4194304):FnF Tryz.prog 128 [.slice (b.map byteV)] (.slice ((md5S b).map byteV)) :=
 fnF_own (ds := [.slice (b.map byteV)]) (md5_Sum b hb) (by rw[List.length_map,md5S_len])
theorem ref1_SumF (b:List UInt8) (hb:b.length≤4194304):FnF Tryz.prog 149 [.slice (b.map byteV)] (.slice ((md5S b).map byteV)) :=
 fnF_own (ds := [.slice (b.map byteV)]) (ref1_Sum b hb) (by rw[List.length_map,md5S_len])
attribute [local irreducible] SStep DW DWin DOps thenQ inBlk loopQ retQ retQG FnF FnG Wk IntKind.wrap IntKind.andI IntKind.orI IntKind.xorI IntKind.andNotI IntKind.shlI IntKind.shrI md5S padK
set_option maxHeartbeats 2000000 in
theorem md5_Mac (key b:List UInt8) (hk:key.length≤4194304) (hb:b.length≤2097152):FnG Tryz.prog 77 [.dat false (.slice (key.map byteV)),.dat false (.slice (b.map byteV))] [] (.own 1000 0 0 16) [(1000,.row 0 false true 1 ((macS key b).map byteV))]:=by
 refine fnG_of Tryz.func77 rfl rfl rfl ?_
 simp only[envD]
 have hkl:=macK_le key
 have hp92:=md5_pad (macK key) hkl 92
 have hp54:=md5_pad (macK key) hkl 54
 have hl92:=padK_len hkl 92
 have hl54:=padK_len hkl 54
 have hdl:=md5S_len (padK (macK key) 54++b)
 have e1:=whole_eq (f:=byteV) (us:=padK (macK key) 54++b) rfl
 have e2:=whole_eq (f:=byteV) (us:=padK (macK key) 92++md5S (padK (macK key) 54++b)) rfl
 have hs1:FnF Tryz.prog 128 [.slice ((((padK (macK key) 54++b).map byteV).drop 0).take (padK (macK key) 54++b).length)] (.slice ((md5S (padK (macK key) 54++b)).map byteV)):=by
  rw[e1];exact md5_SumF _ (by rw[List.length_append];omega)
 have hs2:FnG Tryz.prog 128 [.dat false (.slice ((((padK (macK key) 92++md5S (padK (macK key) 54++b)).map byteV).drop 0).take (padK (macK key) 92++md5S (padK (macK key) 54++b)).length))] [] (.own 1000 0 0 16) [(1000,.row 0 false true 1 ((macS key b).map byteV))]:=by
  rw[e2];exact md5_Sum _ (by rw[List.length_append];omega)
 have hml:(key.map byteV).length=key.length:=by simp
 by_cases h64:64<key.length
 ·have hK:macK key=md5S key:=by unfold macK;rw[if_pos h64]
  have hgt:decide ((64:Int)<((key.map byteV).length:Int))=true:=decide_eq_true (by omega)
  have hsk:=md5_SumF key hk
  rw[←hK]at hsk
  repeat' (first|refine DW_freeze 2 (by intro kt et es h;cases (show Box.cells false _ [D.dat true _]=Box.mapb _ _ _ from h)) ?_|refine qU ?_|(apply dt rfl;case h=>first|exact S_callvG0 _ rfl hp92 rfl rfl (.own _ _)|exact S_callvG0 _ rfl hp54 rfl rfl (.own _ _)|exact S_frz 13 rfl rfl (S_callG0 20 hs2 rfl rfl (.own _ _)))|((first|apply dX rfl|apply Da rfl rfl|apply Db rfl rfl qN);(focus ((try intro hg);first|exact S_callvG0 _ rfl hp92 rfl rfl (.own _ _)|exact S_callvG0 _ rfl hp54 rfl rfl (.own _ _)|exact S_appM (f:=byteV) (us:=padK (macK key) 54) (bs:=b) rfl rfl (.dat _ _) rfl hl54.symm (.inr ⟨rfl,inferInstance⟩) rfl (by omega)|exact S_frz 15 rfl rfl (S_call hs1 rfl)|exact S_appM (f:=byteV) (us:=padK (macK key) 92) (bs:=md5S (padK (macK key) 54++b)) rfl rfl (.dat _ _) rfl hl92.symm (.inr ⟨rfl,inferInstance⟩) rfl (by omega)|exact S_frz 13 rfl rfl (S_callG0 20 hs2 rfl rfl (.own _ _))|exact as_bool (S_gtr rfl rfl) hgt|exact S_call hsk rfl|exact qM));constructor)|refine qP ?_)
  exact gOwn (Wk_g (fun g=>if g=1000 then some 20 else none) rfl rfl kq)
 ·have hK:macK key=key:=by unfold macK;rw[if_neg h64]
  have hgt:decide ((64:Int)<((key.map byteV).length:Int))=false:=decide_eq_false (by omega)
  rw[hK]at hp92 hp54
  rw[hK]at hl92 hl54 hdl e1 e2 hs1 hs2
  repeat' (first|refine DW_freeze 2 (by intro kt et es h;cases (show Box.cells false _ [D.dat false _]=Box.mapb _ _ _ from h)) ?_|refine qU ?_|(apply dt rfl;case h=>first|exact S_callvG0 _ rfl hp92 rfl rfl (.own _ _)|exact S_callvG0 _ rfl hp54 rfl rfl (.own _ _)|exact S_frz 13 rfl rfl (S_callG0 20 hs2 rfl rfl (.own _ _)))|((first|apply dX rfl|apply Da rfl rfl|apply Db rfl rfl qN);(focus ((try intro hg);first|exact S_callvG0 _ rfl hp92 rfl rfl (.own _ _)|exact S_callvG0 _ rfl hp54 rfl rfl (.own _ _)|exact S_appM (f:=byteV) (us:=padK key 54) (bs:=b) rfl rfl (.dat _ _) rfl hl54.symm (.inr ⟨rfl,inferInstance⟩) rfl (by omega)|exact S_frz 15 rfl rfl (S_call hs1 rfl)|exact S_appM (f:=byteV) (us:=padK key 92) (bs:=md5S (padK key 54++b)) rfl rfl (.dat _ _) rfl hl92.symm (.inr ⟨rfl,inferInstance⟩) rfl (by omega)|exact S_frz 13 rfl rfl (S_callG0 20 hs2 rfl rfl (.own _ _))|exact as_bool (S_gtr rfl rfl) hgt|exact qM));constructor)|refine qP ?_)
  exact gOwn (Wk_g (fun g=>if g=1000 then some 20 else none) rfl rfl kq)
theorem padK_at {key:List UInt8} (h:key.length≤64) (w:UInt8) {i:Nat} (hi:i<64):(padK key w).take (i+1)=(padK key w).take i++[((key[i]?).getD 0) ^^^ w]:=by
 have hl:=padK_len h w
 have hg:(padK key w)[i]? = some (((key[i]?).getD 0) ^^^ w):=by
  unfold padK baseK
  rw[List.getElem?_map,List.getElem?_append]
  split
  ·rename_i h1
   rw[List.getElem?_eq_getElem h1];rfl
  ·rename_i h1
   rw[List.getElem?_replicate,if_pos (by omega),List.getElem?_eq_none (by omega)];rfl
 rw[List.take_add_one,hg];rfl
set_option maxHeartbeats 2000000 in
theorem ref1_Mac (key b:List UInt8) (hk:key.length≤4194304) (hb:b.length≤2097152):FnG Tryz.prog 127 [.dat false (.slice (key.map byteV)),.dat false (.slice (b.map byteV))] [] (.own 1000 0 0 16) [(1000,.row 0 false true 1 ((macS key b).map byteV))]:=by
 refine fnG_of Tryz.func127 rfl rfl rfl ?_
 simp only[envD]
 obtain⟨k,hK⟩:∃ k,macK key=k:=⟨_,rfl⟩
 have hkl:k.length≤64:=hK▸macK_le key
 have hl92:=padK_len hkl 92
 have hl54:=padK_len hkl 54
 have hdl:=md5S_len (padK k 54++b)
 have e1:=whole_eq (f:=byteV) (us:=padK k 54++b) rfl
 have e2:=whole_eq (f:=byteV) (us:=padK k 92++md5S (padK k 54++b)) rfl
 have hmac:macS key b=md5S (padK k 92++md5S (padK k 54++b)):=by unfold macS;rw[hK]
 have hs1:FnF Tryz.prog 149 [.slice ((((padK k 54++b).map byteV).drop 0).take (padK k 54++b).length)] (.slice ((md5S (padK k 54++b)).map byteV)):=by
  rw[e1];exact ref1_SumF _ (by rw[List.length_append];omega)
 have hs2:FnG Tryz.prog 149 [.dat false (.slice ((((padK k 92++md5S (padK k 54++b)).map byteV).drop 0).take (padK k 92++md5S (padK k 54++b)).length))] [] (.own 1000 0 0 16) [(1000,.row 0 false true 1 ((macS key b).map byteV))]:=by
  rw[e2,hmac];exact ref1_Sum _ (by rw[List.length_append];omega)
 have hml:(key.map byteV).length=key.length:=by simp
 have hkm:(k.map byteV).length=k.length:=by simp
 by_cases h64:64<key.length
 ·have hk':md5S key=k:=by rw[←hK];unfold macK;rw[if_pos h64]
  have hgt:decide ((64:Int)<((key.map byteV).length:Int))=true:=decide_eq_true (by omega)
  have hsk:=ref1_SumF key hk
  rw[hk']at hsk
  repeat' (first|refine qU ?_|((first|apply dX rfl|apply Da rfl rfl|apply Db rfl rfl qN);(focus ((try intro hg);first|exact as_bool (S_gtr rfl rfl) hgt|exact S_call hsk rfl|exact qM));constructor)|refine qP ?_)
  refine DW_loop (fun p:Nat×List UInt8×List UInt8=>⟨[(0,.dat false (.slice (k.map byteV))),(1,.dat false (.slice (b.map byteV))),(5,.own 30 0 0 p.2.1.length),(6,.own 35 0 0 p.2.2.length),(7,.dat true (.int .i64 p.1))],[(30,.row 0 false true 1 (p.2.1.map byteV)),(35,.row 0 false true 1 (p.2.2.map byteV))],43⟩)
   (fun p=>p.1≤64∧p.2.1=(padK k 54).take p.1∧p.2.2=(padK k 92).take p.1) (fun p=>64-p.1) (0,[],[]) ⟨Nat.zero_le _,rfl,rfl⟩
   (Wk_g (fun g=>if g=30 then none else if g=35 then none else some g) rfl rfl kq) (fun p hR=>?_)
  obtain⟨i,xi,xo⟩:=p
  obtain⟨hi,hxi,hxo⟩:=hR
  simp only at hi hxi hxo
  dsimp only
  have hil:xi.length=i:=by rw[hxi,List.length_take];omega
  have hol:xo.length=i:=by rw[hxo,List.length_take];omega
  by_cases hlt:i<64
  ·have n54:=padK_at hkl 54 hlt
   have n92:=padK_at hkl 92 hlt
   by_cases hik:i<k.length
   ·have hx:k[(i:Int).toNat]? = some k[i]:=by simp[hik]
    have hg:(k[i]?).getD 0=k[i]:=by simp[hik]
    rw[hg]at n54 n92
    generalize k[i]=c at hx n54 n92
    have x54:IntKind.u8.xorI (c.toNat:Int) 54=((c ^^^ 54).toNat:Int):=xor_u8 c 54
    have x92:IntKind.u8.xorI (c.toNat:Int) 92=((c ^^^ 92).toNat:Int):=xor_u8 c 92
    repeat' (first|refine qU ?_|((first|apply dX rfl|apply Da rfl rfl|apply Db rfl rfl qN);(focus ((try intro hg);first|exact as_bool (S_lss rfl rfl) (decide_eq_true (by omega:(i:Int)<64))|exact as_bool (S_lss rfl rfl) (decide_eq_true (by omega:(i:Int)<((k.map byteV).length:Int)))|exact S_ixM (f:=byteV) rfl rfl (by omega) hx|exact as_int (S_xor rfl rfl) x54|exact as_int (S_xor rfl rfl) x92|exact S_app1 rfl rfl (.dat _ _) rfl (by omega)|exact qM));constructor)|refine qP ?_)
    refine loop_again (i+1,xi++[c ^^^ 54],xo++[c ^^^ 92]) ⟨hlt,?_,?_⟩ (by simp only;omega) (Wk_g some rfl rfl kq)
    ·simp only;rw[n54,←hxi]
    ·simp only;rw[n92,←hxo]
   ·have hg:(k[i]?).getD 0=0:=by simp[hik]
    rw[hg]at n54 n92
    have x54:IntKind.u8.xorI 0 54=(((0:UInt8) ^^^ 54).toNat:Int):=xor_u8 0 54
    have x92:IntKind.u8.xorI 0 92=(((0:UInt8) ^^^ 92).toNat:Int):=xor_u8 0 92
    repeat' (first|refine qU ?_|((first|apply dX rfl|apply Da rfl rfl|apply Db rfl rfl qN);(focus ((try intro hg);first|exact as_bool (S_lss rfl rfl) (decide_eq_true (by omega:(i:Int)<64))|exact as_bool (S_lss rfl rfl) (decide_eq_false (by omega:¬(i:Int)<((k.map byteV).length:Int)))|exact as_int (S_xor rfl rfl) x54|exact as_int (S_xor rfl rfl) x92|exact S_app1 rfl rfl (.dat _ _) rfl (by omega)|exact qM));constructor)|refine qP ?_)
    refine loop_again (i+1,xi++[(0:UInt8) ^^^ 54],xo++[(0:UInt8) ^^^ 92]) ⟨hlt,?_,?_⟩ (by simp only;omega) (Wk_g some rfl rfl kq)
    ·simp only;rw[n54,←hxi]
    ·simp only;rw[n92,←hxo]
  ·have hi64:i=64:=by omega
   subst hi64
   rw[List.take_of_length_le (by omega)]at hxi hxo
   rw[←hxi]at hs1 hs2 hdl
   rw[←hxo]at hs2
   repeat' (first|refine qU ?_|(apply dt rfl;case h=>first|exact S_frz 35 rfl rfl (S_callG0 42 hs2 rfl rfl (.own _ _)))|((first|apply dX rfl|apply Da rfl rfl|apply Db rfl rfl qN);(focus ((try intro hg);first|exact as_bool (S_lss rfl rfl) (decide_eq_false (by omega:¬((64:Nat):Int)<64))|exact S_appM (f:=byteV) (us:=xi) (bs:=b) rfl rfl (.dat _ _) rfl rfl (.inr ⟨rfl,inferInstance⟩) rfl (by omega)|exact S_frz 30 rfl rfl (S_call hs1 rfl)|exact S_appM (f:=byteV) (us:=xo) (bs:=md5S (xi++b)) rfl rfl (.dat _ _) rfl rfl (.inr ⟨rfl,inferInstance⟩) rfl (by omega)|exact S_frz 35 rfl rfl (S_callG0 42 hs2 rfl rfl (.own _ _))|exact qM));constructor)|refine qP ?_)
   exact gOwn (Wk_g (fun g=>if g=1000 then some 42 else none) rfl rfl kq)
 ·have hk':key=k:=by rw[←hK];unfold macK;rw[if_neg h64]
  subst hk'
  have hgt:decide ((64:Int)<((key.map byteV).length:Int))=false:=decide_eq_false (by omega)
  repeat' (first|refine qU ?_|((first|apply dX rfl|apply Da rfl rfl|apply Db rfl rfl qN);(focus ((try intro hg);first|exact as_bool (S_gtr rfl rfl) hgt|exact qM));constructor)|refine qP ?_)
  refine DW_loop (fun p:Nat×List UInt8×List UInt8=>⟨[(0,.dat false (.slice (key.map byteV))),(1,.dat false (.slice (b.map byteV))),(5,.own 30 0 0 p.2.1.length),(6,.own 35 0 0 p.2.2.length),(7,.dat true (.int .i64 p.1))],[(30,.row 0 false true 1 (p.2.1.map byteV)),(35,.row 0 false true 1 (p.2.2.map byteV))],43⟩)
   (fun p=>p.1≤64∧p.2.1=(padK key 54).take p.1∧p.2.2=(padK key 92).take p.1) (fun p=>64-p.1) (0,[],[]) ⟨Nat.zero_le _,rfl,rfl⟩
   (Wk_g (fun g=>if g=30 then none else if g=35 then none else some g) rfl rfl kq) (fun p hR=>?_)
  obtain⟨i,xi,xo⟩:=p
  obtain⟨hi,hxi,hxo⟩:=hR
  simp only at hi hxi hxo
  dsimp only
  have hil:xi.length=i:=by rw[hxi,List.length_take];omega
  have hol:xo.length=i:=by rw[hxo,List.length_take];omega
  by_cases hlt:i<64
  ·have n54:=padK_at hkl 54 hlt
   have n92:=padK_at hkl 92 hlt
   by_cases hik:i<key.length
   ·have hx:key[(i:Int).toNat]? = some key[i]:=by simp[hik]
    have hg:(key[i]?).getD 0=key[i]:=by simp[hik]
    rw[hg]at n54 n92
    generalize key[i]=c at hx n54 n92
    have x54:IntKind.u8.xorI (c.toNat:Int) 54=((c ^^^ 54).toNat:Int):=xor_u8 c 54
    have x92:IntKind.u8.xorI (c.toNat:Int) 92=((c ^^^ 92).toNat:Int):=xor_u8 c 92
    repeat' (first|refine qU ?_|((first|apply dX rfl|apply Da rfl rfl|apply Db rfl rfl qN);(focus ((try intro hg);first|exact as_bool (S_lss rfl rfl) (decide_eq_true (by omega:(i:Int)<64))|exact as_bool (S_lss rfl rfl) (decide_eq_true (by omega:(i:Int)<((key.map byteV).length:Int)))|exact S_ixM (f:=byteV) rfl rfl (by omega) hx|exact as_int (S_xor rfl rfl) x54|exact as_int (S_xor rfl rfl) x92|exact S_app1 rfl rfl (.dat _ _) rfl (by omega)|exact qM));constructor)|refine qP ?_)
    refine loop_again (i+1,xi++[c ^^^ 54],xo++[c ^^^ 92]) ⟨hlt,?_,?_⟩ (by simp only;omega) (Wk_g some rfl rfl kq)
    ·simp only;rw[n54,←hxi]
    ·simp only;rw[n92,←hxo]
   ·have hg:(key[i]?).getD 0=0:=by simp[hik]
    rw[hg]at n54 n92
    have x54:IntKind.u8.xorI 0 54=(((0:UInt8) ^^^ 54).toNat:Int):=xor_u8 0 54
    have x92:IntKind.u8.xorI 0 92=(((0:UInt8) ^^^ 92).toNat:Int):=xor_u8 0 92
    repeat' (first|refine qU ?_|((first|apply dX rfl|apply Da rfl rfl|apply Db rfl rfl qN);(focus ((try intro hg);first|exact as_bool (S_lss rfl rfl) (decide_eq_true (by omega:(i:Int)<64))|exact as_bool (S_lss rfl rfl) (decide_eq_false (by omega:¬(i:Int)<((key.map byteV).length:Int)))|exact as_int (S_xor rfl rfl) x54|exact as_int (S_xor rfl rfl) x92|exact S_app1 rfl rfl (.dat _ _) rfl (by omega)|exact qM));constructor)|refine qP ?_)
    refine loop_again (i+1,xi++[(0:UInt8) ^^^ 54],xo++[(0:UInt8) ^^^ 92]) ⟨hlt,?_,?_⟩ (by simp only;omega) (Wk_g some rfl rfl kq)
    ·simp only;rw[n54,←hxi]
    ·simp only;rw[n92,←hxo]
  ·have hi64:i=64:=by omega
   subst hi64
   rw[List.take_of_length_le (by omega)]at hxi hxo
   rw[←hxi]at hs1 hs2 hdl
   rw[←hxo]at hs2
   repeat' (first|refine qU ?_|(apply dt rfl;case h=>first|exact S_frz 35 rfl rfl (S_callG0 42 hs2 rfl rfl (.own _ _)))|((first|apply dX rfl|apply Da rfl rfl|apply Db rfl rfl qN);(focus ((try intro hg);first|exact as_bool (S_lss rfl rfl) (decide_eq_false (by omega:¬((64:Nat):Int)<64))|exact S_appM (f:=byteV) (us:=xi) (bs:=b) rfl rfl (.dat _ _) rfl rfl (.inr ⟨rfl,inferInstance⟩) rfl (by omega)|exact S_frz 30 rfl rfl (S_call hs1 rfl)|exact S_appM (f:=byteV) (us:=xo) (bs:=md5S (xi++b)) rfl rfl (.dat _ _) rfl rfl (.inr ⟨rfl,inferInstance⟩) rfl (by omega)|exact S_frz 35 rfl rfl (S_callG0 42 hs2 rfl rfl (.own _ _))|exact qM));constructor)|refine qP ?_)
   exact gOwn (Wk_g (fun g=>if g=1000 then some 42 else none) rfl rfl kq)
end Go.Proofs.YtcdhlofhhcgohaaGreat
namespace Go.Proofs.YtcdhlofhhcgohaaGreat
open Go.RowKit
def tableT (ws:List Way):List UInt8:=ws.foldl (fun t w=>t.set w.vid.toNat (byteAt w.tree 0)) (List.replicate 4096 0)
def inter (l:List UInt8):List UInt8:=l.flatMap fun c=>[0,c]
theorem inter_len (l:List UInt8):(inter l).length=2*l.length:=by
 induction l with
 | nil=>rfl
 | cons c r ih=>simp only[inter,List.flatMap_cons,List.length_append,List.length_cons,List.length_nil]at *;omega
theorem inter_set : ∀ (l:List UInt8) (i:Nat) (c:UInt8),inter (l.set i c)=(inter l).set (2*i+1) c
 | [],i,c=>rfl
 | a::r,0,c=>rfl
 | a::r,i+1,c=>by
  have ih:=inter_set r i c
  simp only[inter,List.set_cons_succ,List.flatMap_cons]at *
  rw[ih,show 2*(i+1)+1=(2*i+1)+1+1 by omega]
  rfl
theorem inter_zero : ∀ n,inter (List.replicate n 0)=List.replicate (2*n) 0
 | 0=>rfl
 | n+1=>by
  have ih:=inter_zero n
  rw[List.replicate_succ,show 2*(n+1)=2*n+1+1 by omega,List.replicate_succ,List.replicate_succ,←ih]
  rfl
def keyR : List UInt8 := [19,172,6,166,46,71,253,81,249,93,43,162,67,205,3,70]
def digestR (ws:List Way):List UInt8:=macS keyR (inter (tableT ws))
def identR (r:Region):List UInt8:=r.name++List.replicate (32-r.name.length) 0++[byteAt r.rev 1,byteAt r.rev 0]++digestR r.ways
theorem foldl_set_len (ws:List Way):∀ t:List UInt8,(ws.foldl (fun t w=>t.set w.vid.toNat (byteAt w.tree 0)) t).length=t.length:=by
 induction ws with
 | nil=>intro t;rfl
 | cons w r ih=>intro t;rw[List.foldl_cons,ih,List.length_set]
theorem tableT_len (ws:List Way):(tableT ws).length=4096:=by unfold tableT;rw[foldl_set_len,List.length_replicate]
theorem digestR_len (ws:List Way):(digestR ws).length=16:=md5S_len _
end Go.Proofs.YtcdhlofhhcgohaaGreat
namespace Go.Proofs.YtcdhlofhhcgohaaGreat
open Go.RowKit
def tabK (ws:List Way) (k:Nat):List UInt8:=(ws.take k).foldl (fun t w=>t.set w.vid.toNat (byteAt w.tree 0)) (List.replicate 4096 0)
theorem tabK_zero (ws:List Way):tabK ws 0=List.replicate 4096 0:=rfl
theorem tabK_succ {ws:List Way} {k:Nat} {w:Way} (h:ws[k]? = some w):tabK ws (k+1)=(tabK ws k).set w.vid.toNat (byteAt w.tree 0):=by
 unfold tabK
 rw[List.take_add_one,h,List.foldl_append];rfl
theorem tabK_len (ws:List Way) (k:Nat):(tabK ws k).length=4096:=by unfold tabK;rw[foldl_set_len,List.length_replicate]
theorem tabK_all (ws:List Way) {k:Nat} (h:ws.length≤k):tabK ws k=tableT ws:=by unfold tabK tableT;rw[List.take_of_length_le h]
theorem inter_take {l:List UInt8} {k:Nat} {c:UInt8} (h:l[k]? = some c):inter (l.take (k+1))=inter (l.take k)++[0,c]:=by
 rw[List.take_add_one,h]
 simp[inter]
theorem macS_len (key b:List UInt8):(macS key b).length=16:=md5S_len _
theorem byte_hi {x:Int} (h:0≤x):IntKind.u8.wrap (IntKind.i64.shrI x 8)=((byteAt x 1).toNat:Int)∧IntKind.u8.wrap (x / 256)=((byteAt x 1).toNat:Int)∧IntKind.u8.wrap x=((byteAt x 0).toNat:Int)∧IntKind.u8.wrap (x % 256)=((byteAt x 0).toNat:Int):=by
 have e:(2:Int) ^ (min (8:Int).toNat IntKind.i64.bits)=256:=by decide
 have a1:=byteAt_v h 1
 have a0:=byteAt_zero h
 simp only[Nat.mul_one,show(2:Int) ^ 8=256 by decide]at a1
 refine⟨?_,?_,?_,?_⟩
 ·unfold IntKind.shrI
  rw[e,wrap_u8,Int.fdiv_eq_ediv_of_nonneg _ (by decide)];omega
 ·rw[wrap_u8];omega
 ·rw[wrap_u8];omega
 ·rw[wrap_u8];omega
section
variable {P : Program} {e : Operand → D} {m : Mem} {dst : Option Tmp} {ty : TypeId} {pos : String} {af : Array Edge} {gd : Option (Nat × Bool)} {x y : Operand} {t ts : TypeId}
theorem S_copyS {us bs:List UInt8} {g ver len by_ el:Nat} {agg nw n:Bool} {zs:List V} [hu:SlcI P t el] [ht:TyI P el agg 1 by_ zs] (h1:e x = .own g ver 0 len) (hmg:m.at g = .row ver false nw 1 (us.map byteV)) (hlx:len=us.length)
  (h2:e y = .dat n (.str bs)) :
  SStep P ⟨dst,.call { callee := .builtin .copy,args := #[x,y],argTypes := #[t,ts] },ty,pos,af,gd⟩ e m (g::refs0 (e y)) (.dat true (.int .i64 (min bs.length len:Nat))) [(g,.row ver false nw 1 ((bs.take len++us.drop bs.length).map byteV))]:=by
 have hl:(us.map byteV).length=us.length:=by simp
 have hb:(bytesV bs).length=bs.length:=bytesV_len bs
 have:=S_copy (P:=P) (m:=m) (t:=t) (ts:=ts) (el:=el) (by_:=by_) (zs:=zs) (agg:=agg) (dst:=dst) (ty:=ty) (pos:=pos) (af:=af) (gd:=gd) (nf:=true) (n:=true) (els:=bytesV bs) Nat.one_pos h1 hmg (by rw[hl];exact hlx)
  (by rw[h2];exact .str n bs) (map_el (f:=byteV) bs) (.inl rfl) (fun v lo l h=>by rw[h2]at h;cases h)
 rw[hb,Bool.and_true,bytesV_map,←List.map_take,←List.map_drop,←List.map_append]at this
 exact this
end
attribute [local irreducible] SStep DW DWin DOps thenQ inBlk loopQ retQ retQG FnF FnG Wk IntKind.wrap IntKind.andI IntKind.orI IntKind.xorI IntKind.andNotI IntKind.shlI IntKind.shrI macS tabK tableT inter
theorem md5_MacF (key b:List UInt8) (hk:key.length≤4194304) (hb:b.length≤2097152):FnF Tryz.prog 77 [.slice (key.map byteV),.slice (b.map byteV)] (.slice ((macS key b).map byteV)) :=
 fnF_own (ds := [.slice (key.map byteV),.slice (b.map byteV)]) (md5_Mac key b hk hb) (by rw[List.length_map,macS_len])
theorem ref1_MacF (key b:List UInt8) (hk:key.length≤4194304) (hb:b.length≤2097152):FnF Tryz.prog 127 [.slice (key.map byteV),.slice (b.map byteV)] (.slice ((macS key b).map byteV)) :=
 fnF_own (ds := [.slice (key.map byteV),.slice (b.map byteV)]) (ref1_Mac key b hk hb) (by rw[List.length_map,macS_len])
theorem ref1_SameG (a b:List UInt8):FnF Tryz.prog 76 [.slice (a.map byteV),.slice (b.map byteV)] (.bool (decide (a=b))):=by
 refine fnF_of Tryz.func76 rfl rfl rfl ?_
 simp only[envOf]
 repeat' (first|refine qU ?_|((first|apply dX rfl|apply Da rfl rfl|apply Db rfl rfl qN);(focus ((try intro hg);first|exact S_bs Tryz.underlying5 Tryz.underlying9 rfl|exact qM));constructor)|refine qP ?_)
 exact ret1 rfl (.inl rfl) rfl
theorem bytes_Equal (a b:List UInt8):FnF Tryz.prog 100 [.slice (a.map byteV),.slice (b.map byteV)] (.bool (decide (a=b))):=by
 refine fnF_of Tryz.func100 rfl rfl rfl ?_
 simp only[envOf]
 repeat' (first|refine qU ?_|((first|apply dX rfl|apply Da rfl rfl|apply Db rfl rfl qN);(focus ((try intro hg);first|exact S_bs Tryz.underlying5 Tryz.underlying9 rfl|exact qM));constructor)|refine qP ?_)
 exact ret1 rfl (.inl rfl) rfl
theorem region_key : FnF Tryz.prog 78 [] (.slice (keyR.map byteV)):=by
 refine fnF_of Tryz.func78 rfl rfl rfl ?_
 simp only[envOf]
 repeat' (first|refine qU ?_|((first|apply dX rfl|apply Da rfl rfl|apply Db rfl rfl qN);(focus ((try intro hg);first|exact qM));constructor)|refine qP ?_)
 exact ret1 rfl (.inl rfl) rfl
set_option maxRecDepth 20000 in
set_option maxHeartbeats 2000000 in
theorem region_Digest (r:Region) (hr:r.right):FnF Tryz.prog 35 [r.v] (.slice ((digestR r.ways).map byteV)):=by
 refine fnF_of Tryz.func35 rfl rfl rfl ?_
 simp only[envOf]
 have hml:(r.ways.map wayV).length=r.ways.length:=by simp
 have hrl:=hr.l
 have hz:List.replicate 8192 (0:UInt8)=inter (tabK r.ways 0):=by rw[tabK_zero,inter_zero]
 repeat' (first|(apply dt rfl;case h=>exact S_mkM (f:=byteV) (l:=8192) (c:=8192) (0:UInt8) _ rfl rfl rfl rfl (Nat.le_refl _) (by decide) rfl rfl)|refine qU ?_|((first|apply dX rfl|apply Da rfl rfl|apply Db rfl rfl qN);(focus ((try intro hg);first|exact qM));constructor)|refine qP ?_)
 rw[hz]
 refine DW_loop (fun p:Nat×List UInt8=>⟨[(3,.own 6 0 0 8192),(8,.dat false (.slice (r.ways.map wayV))),(9,.dat true (.int .i64 (r.ways.map wayV).length)),(10,.dat true (.int .i64 p.1))],[(6,.row 0 false true 1 (p.2.map byteV))],27⟩)
  (fun p=>p.1≤r.ways.length∧p.2=inter (tabK r.ways p.1)) (fun p=>r.ways.length-p.1) (0,inter (tabK r.ways 0)) ⟨Nat.zero_le _,rfl⟩
  (Wk_g some rfl rfl kq) (fun p hR=>?_)
 obtain⟨k,us⟩:=p
 obtain⟨hk,hus⟩:=hR
 simp only at hk hus
 dsimp only
 have hul:us.length=8192:=by rw[hus,inter_len,tabK_len]
 by_cases hlt:k<r.ways.length
 ·have hx:r.ways[(k:Int).toNat]? = some r.ways[k]:=by simp[hlt]
  have hx':r.ways[k]? = some r.ways[k]:=by simp[hlt]
  have hbad:=hr.w _ (List.getElem_mem hlt)
  have hs:=tabK_succ hx'
  generalize r.ways[k]=w at hx hx' hbad hs
  unfold Way.bad at hbad
  have hi:(2*w.vid+1).toNat<us.length:=by omega
  have hx0:us[(2*w.vid+1).toNat]? = some us[(2*w.vid+1).toNat]:=List.getElem?_eq_getElem hi
  have hset:us.set (2*w.vid+1).toNat (byteAt w.tree 0)=inter (tabK r.ways (k+1)):=by
   rw[hs,inter_set,←hus,show(2*w.vid+1).toNat=2*w.vid.toNat+1 by omega]
  generalize us[(2*w.vid+1).toNat]=c at hx0
  have hb:=(byte_hi (x:=w.tree) (by omega)).2.2.1
  repeat' (first|refine qU ?_|((first|apply dX rfl|apply Da rfl rfl|apply Db rfl rfl qN);(focus ((try intro hg);first|exact as_bool (S_lss rfl rfl) (decide_eq_true (by omega:(k:Int)<((r.ways.map wayV).length:Int)))|exact S_ixM rfl rfl (by omega) hx|exact C_toInt rfl hb|exact S_ixO rfl rfl rfl (by omega) (by omega)|exact S_storeM (f:=byteV) (a:=byteAt w.tree 0) rfl rfl hx0 rfl rfl (.inr ⟨rfl,inferInstance⟩) rfl rfl|exact qM));constructor)|refine qP ?_)
  exact loop_again (k+1,us.set (2*w.vid+1).toNat (byteAt w.tree 0)) ⟨hlt,hset⟩ (by simp only;omega) (Wk_g some rfl rfl kq)
 ·rw[tabK_all r.ways (by omega)]at hus
  have hm:FnF Tryz.prog 77 [.slice (keyR.map byteV),.slice (((us.map byteV).drop 0).take 8192)] (.slice ((digestR r.ways).map byteV)):=by
   rw[whole_eq hul,hus]
   exact md5_MacF keyR _ (by decide) (by rw[inter_len,tableT_len];decide)
  repeat' (first|refine qU ?_|((first|apply dX rfl|apply Da rfl rfl|apply Db rfl rfl qN);(focus ((try intro hg);first|exact as_bool (S_lss rfl rfl) (decide_eq_false (by omega:¬(k:Int)<((r.ways.map wayV).length:Int)))|exact S_call region_key rfl|exact S_frz 6 rfl rfl (S_call hm rfl)|exact qM));constructor)|refine qP ?_)
  exact ret1 rfl (.inl rfl) rfl
set_option maxRecDepth 20000 in
set_option maxHeartbeats 2000000 in
theorem ref3_TableG (r:Region) (hr:r.right):FnG Tryz.prog 126 [.dat false r.v] [] (.own 1000 0 0 4096) [(1000,.row 0 false true 1 ((tableT r.ways).map byteV))]:=by
 refine fnG_of Tryz.func126 rfl rfl rfl ?_
 simp only[envD]
 have hml:(r.ways.map wayV).length=r.ways.length:=by simp
 have hrl:=hr.l
 have hz:List.replicate 4096 (0:UInt8)=tabK r.ways 0:=(tabK_zero _).symm
 repeat' (first|(apply dt rfl;case h=>exact S_mkM (f:=byteV) (l:=4096) (c:=4096) (0:UInt8) _ rfl rfl rfl rfl (Nat.le_refl _) (by decide) rfl rfl)|refine qU ?_|((first|apply dX rfl|apply Da rfl rfl|apply Db rfl rfl qN);(focus ((try intro hg);first|exact qM));constructor)|refine qP ?_)
 rw[hz]
 refine DW_loop (fun p:Nat×List UInt8=>⟨[(3,.own 6 0 0 4096),(8,.dat false (.slice (r.ways.map wayV))),(9,.dat true (.int .i64 (r.ways.map wayV).length)),(10,.dat true (.int .i64 p.1))],[(6,.row 0 false true 1 (p.2.map byteV))],23⟩)
  (fun p=>p.1≤r.ways.length∧p.2=tabK r.ways p.1) (fun p=>r.ways.length-p.1) (0,tabK r.ways 0) ⟨Nat.zero_le _,rfl⟩
  (Wk_g some rfl rfl kq) (fun p hR=>?_)
 obtain⟨k,us⟩:=p
 obtain⟨hk,hus⟩:=hR
 simp only at hk hus
 dsimp only
 have hul:us.length=4096:=by rw[hus,tabK_len]
 by_cases hlt:k<r.ways.length
 ·have hx:r.ways[(k:Int).toNat]? = some r.ways[k]:=by simp[hlt]
  have hx':r.ways[k]? = some r.ways[k]:=by simp[hlt]
  have hbad:=hr.w _ (List.getElem_mem hlt)
  have hs:=tabK_succ hx'
  generalize r.ways[k]=w at hx hx' hbad hs
  unfold Way.bad at hbad
  have hi:w.vid.toNat<us.length:=by omega
  have hx0:us[w.vid.toNat]? = some us[w.vid.toNat]:=List.getElem?_eq_getElem hi
  have hset:us.set w.vid.toNat (byteAt w.tree 0)=tabK r.ways (k+1):=by rw[hs,←hus]
  generalize us[w.vid.toNat]=c at hx0
  have hb:=(byte_hi (x:=w.tree) (by omega)).2.2.1
  repeat' (first|refine qU ?_|((first|apply dX rfl|apply Da rfl rfl|apply Db rfl rfl qN);(focus ((try intro hg);first|exact as_bool (S_lss rfl rfl) (decide_eq_true (by omega:(k:Int)<((r.ways.map wayV).length:Int)))|exact S_ixM rfl rfl (by omega) hx|exact C_toInt rfl hb|exact S_ixO rfl rfl rfl (by omega) (by omega)|exact S_storeM (f:=byteV) (a:=byteAt w.tree 0) rfl rfl hx0 rfl rfl (.inr ⟨rfl,inferInstance⟩) rfl rfl|exact qM));constructor)|refine qP ?_)
  exact loop_again (k+1,us.set w.vid.toNat (byteAt w.tree 0)) ⟨hlt,hset⟩ (by simp only;omega) (Wk_g some rfl rfl kq)
 ·rw[tabK_all r.ways (by omega)]at hus
  rw[←hus]
  repeat' (first|refine qU ?_|((first|apply dX rfl|apply Da rfl rfl|apply Db rfl rfl qN);(focus ((try intro hg);first|exact as_bool (S_lss rfl rfl) (decide_eq_false (by omega:¬(k:Int)<((r.ways.map wayV).length:Int)))|exact qM));constructor)|refine qP ?_)
  exact gOwn (Wk_g (fun g=>if g=1000 then some 6 else none) rfl rfl kq)
theorem ref3_Table (r:Region) (hr:r.right):FnF Tryz.prog 126 [r.v] (.slice ((tableT r.ways).map byteV)) :=
 fnF_own (ds := [r.v]) (ref3_TableG r hr) (by rw[List.length_map,tableT_len])
set_option maxHeartbeats 2000000 in
theorem ref3_Digest (r:Region) (hr:r.right):FnF Tryz.prog 74 [r.v] (.slice ((digestR r.ways).map byteV)):=by
 refine fnF_of Tryz.func74 rfl rfl rfl ?_
 simp only[envOf]
 have hT:=ref3_Table r hr
 have hTl:=tableT_len r.ways
 have hD:digestR r.ways=macS keyR (inter (tableT r.ways)):=rfl
 rw[hD]
 generalize tableT r.ways=T at hT hTl
 have hml:(T.map byteV).length=4096:=by rw[List.length_map,hTl]
 repeat' (first|refine qU ?_|((first|apply dX rfl|apply Da rfl rfl|apply Db rfl rfl qN);(focus ((try intro hg);first|exact S_call hT rfl|exact qM));constructor)|refine qP ?_)
 refine DW_loop (fun p:Nat×List UInt8=>⟨[(3,.own 16 0 0 p.2.length),(7,.dat true (.slice (T.map byteV))),(8,.dat true (.int .i64 (T.map byteV).length)),(9,.dat true (.int .i64 p.1))],[(16,.row 0 false true 1 (p.2.map byteV))],21⟩)
  (fun p=>p.1≤4096∧p.2=inter (T.take p.1)) (fun p=>4096-p.1) (0,[]) ⟨Nat.zero_le _,by with_unfolding_all rfl⟩
  (Wk_g (fun g=>if g=16 then none else some g) rfl rfl kq) (fun p hR=>?_)
 obtain⟨k,us⟩:=p
 obtain⟨hk,hus⟩:=hR
 simp only at hk hus
 dsimp only
 have hul:us.length≤8192:=by rw[hus,inter_len,List.length_take];omega
 by_cases hlt:k<4096
 ·have hx:T[(k:Int).toNat]? = some (T[k]'(by omega)):=by rw[Int.toNat_natCast];exact List.getElem?_eq_getElem (by omega)
  have hs:=inter_take (List.getElem?_eq_getElem (by omega:k<T.length))
  generalize T[k]'(by omega)=c at hx hs
  repeat' (first|refine qU ?_|((first|apply dX rfl|apply Da rfl rfl|apply Db rfl rfl qN);(focus ((try intro hg);first|exact as_bool (S_lss rfl rfl) (decide_eq_true (by omega:(k:Int)<((T.map byteV).length:Int)))|exact S_ixM (f:=byteV) (us:=T) rfl rfl (by omega) hx|exact S_appM (f:=byteV) (us:=us) (bs := [0,c]) rfl rfl (.dat _ _) rfl rfl (.inr ⟨rfl,inferInstance⟩) rfl (by simp only[List.length_cons,List.length_nil];omega)|exact qM));constructor)|refine qP ?_)
  refine loop_again (k+1,us++[0,c]) ⟨hlt,?_⟩ (by simp only;omega) (Wk_g some rfl rfl kq)
  simp only
  rw[hs,hus]
 ·rw[List.take_of_length_le (by omega)]at hus
  have hm:FnF Tryz.prog 127 [.slice (keyR.map byteV),.slice (((us.map byteV).drop 0).take us.length)] (.slice ((macS keyR (inter T)).map byteV)):=by
   rw[whole_eq rfl,←hus]
   exact ref1_MacF keyR _ (by decide) (by omega)
  repeat' (first|refine qU ?_|((first|apply dX rfl|apply Da rfl rfl|apply Db rfl rfl qN);(focus ((try intro hg);first|exact as_bool (S_lss rfl rfl) (decide_eq_false (by omega:¬(k:Int)<((T.map byteV).length:Int)))|exact S_frz 16 rfl rfl (S_call hm rfl)|exact qM));constructor)|refine qP ?_)
  exact ret1 rfl (.inl rfl) rfl
end Go.Proofs.YtcdhlofhhcgohaaGreat
