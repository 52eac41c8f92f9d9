/- Walks, in few words: one relation for all that code does by its shape, one rule for all operations. -/
import Derived.Test.YtcdhlofhhcgohaaGreatwbEq
import Derived.Test.YtcdhlofhhcgohaaGreatwbMake
namespace Go.Proofs.YtcdhlofhhcgohaaGreat
open Go.RowKit
inductive Wr (k:IntKind) (a:Int):Int→Prop
 | inK (h:InK k a):Wr k a a
 | wr:Wr k a (k.wrap a)
inductive Cpy : D→D→Prop
 | dat {n:Bool} {x:V}:Cpy (.dat n x) (.dat n x)
 | ptr {g o:Nat}:Cpy (.ptr g o) (.ptr g o)
 | own {g v l n:Nat}:Cpy (.own g v l n) (.own g v l n)
 | nil:Cpy .nil .nil
 | rptr {g v i o:Nat}:Cpy (.rptr g v i o) (.rptr g v i o)
 | aggd {cs:List D}:Cpy (.aggd cs) (.aggd cs)
 | mp {g:Nat}:Cpy (.mp g) (.mp g)
 | sl {g n:Nat}:Cpy (.sl g n) (.sl g n)
 | fnd {f:FuncId} {cs:List D}:Cpy (.fnd f cs) (.fnd f cs)
inductive Ldg (P:Program) (m:Mem) (t:TypeId):D→List Nat→D→Prop
 | rp {n agg:Bool} {s by_:Nat} {zs cs:List V} {r:V} [ht:TyI P t agg s by_ zs] (hr:ldV agg s cs=some r):Ldg P m t (.dat n (.rp cs)) [] (.dat n r)
 | ptr {frz nw:Bool} {s by_ g off:Nat} {zs:List V} {cs:List D} {d:D} [ht:TyI P t false s by_ zs] (hm:m.at g = .cells frz nw cs) (hc:cs[off]? = some d):Ldg P m t (.ptr g off) [g] d
 | ptrs {frz nw:Bool} {s by_ g off:Nat} {zs:List V} {cs:List D} [ht:TyI P t true s by_ zs] (hm:m.at g = .cells frz nw cs) (hl:Nat.ble (off+s) cs.length=true):Ldg P m t (.ptr g off) [g] (.aggd ((cs.drop off).take s))
 | rptr {frz nw agg:Bool} {s by_ g ver i off sz:Nat} {zs:List V} {xs:List (List V)} {el:List V} {r:V} [ht:TyI P t agg s by_ zs] (hm:m.at g = .row ver frz nw sz xs) (he:xs[i]? = some el) (hr:ldV agg s (el.drop off)=some r) :
   Ldg P m t (.rptr g ver i off) [g] (.dat nw r)
inductive Fad (P:Program) (m:Mem) (t:TypeId) (i:Nat):D→List Nat→D→Prop
 | rp {off ft s by_:Nat} {agg n:Bool} {zs cs:List V} [hf:FldI P t i off ft] [ht:TyI P ft agg s by_ zs] (hs:Nat.beq s 0=false):Fad P m t i (.dat n (.rp cs)) [] (.dat n (.rp (cs.drop off)))
 | ptr {off ft s by_ g o:Nat} {agg:Bool} {zs:List V} [hf:FldI P t i off ft] [ht:TyI P ft agg s by_ zs] (hs:Nat.beq s 0=false):Fad P m t i (.ptr g o) [] (.ptr g (o+off))
 | rptr {off ft s by_ g ver k o sz:Nat} {agg frz nw:Bool} {zs:List V} {xs:List (List V)} [hf:FldI P t i off ft] [ht:TyI P ft agg s by_ zs] (hs:Nat.beq s 0=false) (hm:m.at g = .row ver frz nw sz xs) :
   Fad P m t i (.rptr g ver k o) [g] (.rptr g ver k (o+off))
inductive Fld (P:Program) (t:TypeId) (i:Nat):D→D→Prop
 | dat {off ft s by_:Nat} {agg n:Bool} {zs cs:List V} {r:V} [hf:FldI P t i off ft] [ht:TyI P ft agg s by_ zs] (hr:zqv agg s off cs=some r):Fld P t i (.dat n (.agg cs)) (.dat n r)
 | aggd {off ft by_:Nat} {zs:List V} {cs:List D} {d:D} [hf:FldI P t i off ft] [ht:TyI P ft false 1 by_ zs] (hr:cs[off]? = some d):Fld P t i (.aggd cs) d
inductive Bin (P:Program) (m:Mem) (t:TypeId):BinOp→D→D→List Nat→D→Prop
 | add {n1 n2:Bool} {k:IntKind} {a b c:Int} (h:Wr k (a+b) c):Bin P m t .add (.dat n1 (.int k a)) (.dat n2 (.int k b)) [] (.dat true (.int k c))
 | sub {n1 n2:Bool} {k:IntKind} {a b c:Int} (h:Wr k (a-b) c):Bin P m t .sub (.dat n1 (.int k a)) (.dat n2 (.int k b)) [] (.dat true (.int k c))
 | mul {n1 n2:Bool} {k:IntKind} {a b c:Int} (h:Wr k (a*b) c):Bin P m t .mul (.dat n1 (.int k a)) (.dat n2 (.int k b)) [] (.dat true (.int k c))
 | quo {n1 n2:Bool} {k:IntKind} {a b:Int} (h:b≠0):Bin P m t .quo (.dat n1 (.int k a)) (.dat n2 (.int k b)) [] (.dat true (.int k (k.wrap (a.tdiv b))))
 | rem {n1 n2:Bool} {k:IntKind} {a b:Int} (h:b≠0):Bin P m t .rem (.dat n1 (.int k a)) (.dat n2 (.int k b)) [] (.dat true (.int k (a.tmod b)))
 | and {n1 n2:Bool} {k:IntKind} {a b:Int}:Bin P m t .and (.dat n1 (.int k a)) (.dat n2 (.int k b)) [] (.dat true (.int k (k.andI a b)))
 | or {n1 n2:Bool} {k:IntKind} {a b:Int}:Bin P m t .or (.dat n1 (.int k a)) (.dat n2 (.int k b)) [] (.dat true (.int k (k.orI a b)))
 | xor {n1 n2:Bool} {k:IntKind} {a b:Int}:Bin P m t .xor (.dat n1 (.int k a)) (.dat n2 (.int k b)) [] (.dat true (.int k (k.xorI a b)))
 | andNot {n1 n2:Bool} {k:IntKind} {a b:Int}:Bin P m t .andNot (.dat n1 (.int k a)) (.dat n2 (.int k b)) [] (.dat true (.int k (k.andNotI a b)))
 | shl {n1 n2:Bool} {k k':IntKind} {a b:Int} (h:0≤b):Bin P m t .shl (.dat n1 (.int k a)) (.dat n2 (.int k' b)) [] (.dat true (.int k (k.shlI a b)))
 | shr {n1 n2:Bool} {k k':IntKind} {a b:Int} (h:0≤b):Bin P m t .shr (.dat n1 (.int k a)) (.dat n2 (.int k' b)) [] (.dat true (.int k (k.shrI a b)))
 | lss {n1 n2:Bool} {k:IntKind} {a b:Int}:Bin P m t .lss (.dat n1 (.int k a)) (.dat n2 (.int k b)) [] (.dat true (.bool (decide (a<b))))
 | leq {n1 n2:Bool} {k:IntKind} {a b:Int}:Bin P m t .leq (.dat n1 (.int k a)) (.dat n2 (.int k b)) [] (.dat true (.bool (decide (a≤b))))
 | gtr {n1 n2:Bool} {k:IntKind} {a b:Int}:Bin P m t .gtr (.dat n1 (.int k a)) (.dat n2 (.int k b)) [] (.dat true (.bool (decide (b<a))))
 | geq {n1 n2:Bool} {k:IntKind} {a b:Int}:Bin P m t .geq (.dat n1 (.int k a)) (.dat n2 (.int k b)) [] (.dat true (.bool (decide (b≤a))))
 | eqI {n1 n2:Bool} {k:IntKind} {a b:Int}:Bin P m t .eql (.dat n1 (.int k a)) (.dat n2 (.int k b)) [] (.dat true (.bool (decide (a=b))))
 | neI {n1 n2:Bool} {k:IntKind} {a b:Int}:Bin P m t .neq (.dat n1 (.int k a)) (.dat n2 (.int k b)) [] (.dat true (.bool (decide (a≠b))))
 | eqS {n1 n2:Bool} {a b:List UInt8}:Bin P m t .eql (.dat n1 (.str a)) (.dat n2 (.str b)) [] (.dat true (.bool (decide (a=b))))
 | neS {n1 n2:Bool} {a b:List UInt8}:Bin P m t .neq (.dat n1 (.str a)) (.dat n2 (.str b)) [] (.dat true (.bool (decide (a≠b))))
 | eqB {n1 n2 a b:Bool} [ht:BoolI P t]:Bin P m t .eql (.dat n1 (.bool a)) (.dat n2 (.bool b)) [] (.dat true (.bool (a == b)))
 | neB {n1 n2 a b:Bool} [ht:BoolI P t]:Bin P m t .neq (.dat n1 (.bool a)) (.dat n2 (.bool b)) [] (.dat true (.bool (a != b)))
 | eqA {d1 d2:D} {c:List Nat} {n1 n2:Bool} {cs us:List V} {z:Bool} [hq:EqI P t c] (h1:asV m d1=some (n1,.agg cs)) (h2:asV m d2=some (n2,.agg us)) (hc:cs.map V.code=c) (hu:us.map V.code=c) (hz:eqL cs us=some z) :
   Bin P m t .eql d1 d2 (refs m d1++refs m d2) (.dat true (.bool z))
 | neA {d1 d2:D} {c:List Nat} {n1 n2:Bool} {cs us:List V} {z:Bool} [hq:EqI P t c] (h1:asV m d1=some (n1,.agg cs)) (h2:asV m d2=some (n2,.agg us)) (hc:cs.map V.code=c) (hu:us.map V.code=c) (hz:eqL cs us=some z) :
   Bin P m t .neq d1 d2 (refs m d1++refs m d2) (.dat true (.bool (!z)))
inductive Pck : D→D→D→D→Prop
 | T {n n1 c:Bool} {d:D}:Pck (.dat n (.bool true)) (.dat n1 (.bool c)) d (.dat true (.bool c))
 | F {n n1 c:Bool} {d:D}:Pck (.dat n (.bool false)) d (.dat n1 (.bool c)) (.dat true (.bool c))
 | and {n n1 n2 b c:Bool}:Pck (.dat n (.bool b)) (.grd (b == true) (.dat n1 (.bool c))) (.dat n2 (.bool false)) (.dat true (.bool (b && c)))
 | or {n n1 n2 b c:Bool}:Pck (.dat n (.bool b)) (.dat n1 (.bool true)) (.grd (b == false) (.dat n2 (.bool c))) (.dat true (.bool (b || c)))
inductive Lng (P:Program) (m:Mem) (t:TypeId):D→List Nat→Int→Prop
 | slice {n:Bool} {xs:List (List V)} {el:Nat} [hu:SlcI P t el]:Lng P m t (.dat n (.slice xs)) [] xs.length
 | own {g ver lo len el sz:Nat} {frz nw:Bool} {xs:List (List V)} [hu:SlcI P t el] (hm:m.at g = .row ver frz nw sz xs):Lng P m t (.own g ver lo len) [g] len
 | str {n:Bool} {s:List UInt8} [hu:StrI P t]:Lng P m t (.dat n (.str s)) [] s.length
 | nil {el:Nat} [hu:SlcI P t el]:Lng P m t .nil [] 0
inductive Nch : D→D→Prop
 | ptr {g o:Nat}:Nch (.ptr g o) (.ptr g o)
 | rp {n:Bool} {cs:List V}:Nch (.dat n (.rp cs)) (.dat n (.rp cs))
 | fn {n:Bool} {f:FuncId} {cs:List V}:Nch (.dat n (.fn f cs)) (.dat n (.fn f cs))
inductive Ixa (P:Program) (t:TypeId):D→D→D→Prop
 | slice {n n' agg:Bool} {k:IntKind} {i:Int} {el s by_:Nat} {zs c:List V} {xs:List (List V)} [hu:SlcI P t el] [ht:TyI P el agg s by_ zs] (hi:0≤i) (hc:xs[i.toNat]? = some c) (hl:c.length=s) :
   Ixa P t (.dat n (.slice xs)) (.dat n' (.int k i)) (.dat n (.rp c))
 | arr {n' agg:Bool} {k:IntKind} {i:Int} {el s by_ len g o:Nat} {zs:List V} [hu:ArrI P t len el] [ht:TyI P el agg s by_ zs] (hi:0≤i) (hc:i<len):Ixa P t (.ptr g o) (.dat n' (.int k i)) (.ptr g (o+i.toNat*s))
inductive Pu (P:Program) (e:Operand→D) (m:Mem):Op→List Nat→D→Prop
 | move {x:Operand} {d:D} (h:Cpy (e x) d):Pu P e m (.move x) [] d
 | assign {x:Operand} {d:D} (h:Cpy (e x) d):Pu P e m (.assign x) [] d
 | load {t:TypeId} {x:Operand} {rd:List Nat} {d:D} (h:Ldg P m t (e x) rd d):Pu P e m (.load t x) rd d
 | fad {t:TypeId} {x:Operand} {i:Nat} {rd:List Nat} {d:D} (h:Fad P m t i (e x) rd d):Pu P e m (.fieldAddr t x i) rd d
 | fld {t:TypeId} {x:Operand} {i:Nat} {d:D} (h:Fld P t i (e x) d):Pu P e m (.field t x i) [] d
 | eqNil {t yt:TypeId} {x:Operand} {el:Nat} [hu:SlcI P t el] (h:e x = .nil):Pu P e m (.binOp .eql t x (.const (.slice none 0 0)) yt) [] (.dat true (.bool true))
 | bin {op:BinOp} {t yt:TypeId} {x y:Operand} {rd:List Nat} {d:D} (h:Bin P m t op (e x) (e y) rd d):Pu P e m (.binOp op t x y yt) rd d
 | not {t:TypeId} {x:Operand} {n b:Bool} (h:e x = .dat n (.bool b)):Pu P e m (.unOp .not t x) [] (.dat true (.bool (!b)))
 | pick {x y z:Operand} {d:D} (h:Pck (e x) (e y) (e z) d):Pu P e m (.pick x y z) [] d
 | len {t:TypeId} {x:Operand} {rd:List Nat} {a:Int} (h:Lng P m t (e x) rd a):Pu P e m (.call { callee := .builtin .len,args := #[x],argTypes := #[t] }) rd (.dat true (.int .i64 a))
 | min {x y:Operand} {n n':Bool} {k:IntKind} {a b:Int} {ts:Array TypeId} (h1:e x = .dat n (.int k a)) (h2:e y = .dat n' (.int k b)):Pu P e m (.call { callee := .builtin .min,args := #[x,y],argTypes:=ts }) [] (.dat true (.int k (Min.min a b)))
 | max {x y:Operand} {n n':Bool} {k:IntKind} {a b:Int} {ts:Array TypeId} (h1:e x = .dat n (.int k a)) (h2:e y = .dat n' (.int k b)):Pu P e m (.call { callee := .builtin .max,args := #[x,y],argTypes:=ts }) [] (.dat true (.int k (Max.max a b)))
 | extract {x:Operand} {i:Nat} {n:Bool} {cs:List V} {d:V} (h:e x = .dat n (.tuple cs)) (hi:cs[i]? = some d):Pu P e m (.extract x i) [] (.dat n d)
 | conv {s t:TypeId} {x:Operand} {n:Bool} {k k':IntKind} {a c:Int} [hs:IntI P s k] [ht:IntI P t k'] (h:e x = .dat n (.int k a)) (hw:Wr k' a c):Pu P e m (.convert s t x) [] (.dat true (.int k' c))
 | nilCheck {x:Operand} {d:D} (h:Nch (e x) d):Pu P e m (.nilCheck x) [] d
 | build {t:TypeId} {s by_:Nat} {zs:List V} {pl:List (Nat×Nat)} {cs:List D} {parts:Array (Nat×Operand)} [ht:TyI P t true s by_ zs] [hp:StructI P t pl] (h:zjX (pl[·]?) e (zs.map V.zD) parts.toList=some cs):Pu P e m (.build t parts) [] (.aggd cs)
 | buildA {t:TypeId} {s by_ es eb len el:Nat} {eagg:Bool} {zs ez:List V} {cs:List D} {parts:Array (Nat×Operand)} [ht:TyI P t true s by_ zs] [hu:ArrI P t len el] [he:TyI P el eagg es eb ez] (h:zjX (fun i=>some (i*es,es)) e (zs.map V.zD) parts.toList=some cs) :
   Pu P e m (.build t parts) [] (.aggd cs)
 | lit {t:TypeId} {el s by_ len:Nat} {agg n:Bool} {zs:List V} {els:List (List V)} {parts:Array (Nat×Operand)} [hu:SlcI P t el] [ht:TyI P el agg s by_ zs] (h:elsV m e s 0 parts.toList=some (n,els)) (hl:Nat.beq parts.size len=true) (hb:Nat.ble (len*s) 16777216=true) (hb2:Nat.ble len 16777216=true) :
   Pu P e m (.buildSlice t len parts) (parts.toList.flatMap fun p=>refs m (e p.2)) (.dat n (.slice els))
 | makeFunc {f:FuncId} {n:Bool} {caps:Array Operand} {vs:List V} (h:asVL m (caps.toList.map e)=some (n,vs)):Pu P e m (.makeFunc (.func f) #[] caps) ((caps.toList.map e).flatMap (refs m)) (.dat n (.fn f vs))
 | ixa {t:TypeId} {x y:Operand} {d:D} (h:Ixa P t (e x) (e y) d):Pu P e m (.indexAddr t x y) [] d
 | index {t:TypeId} {x y:Operand} {n':Bool} {k:IntKind} {i:Int} {el by_ len:Nat} {zs:List V} {cs:List D} {d:D} [hu:ArrI P t len el] [ht:TyI P el false 1 by_ zs]
   (h1:e x = .aggd cs) (h2:e y = .dat n' (.int k i)) (hi:0≤i) (hc:i<len) (hr:cs[i.toNat]? = some d):Pu P e m (.index t x y) [] d
section
variable {P : Program} {e : Operand → D} {m : Mem} {dst : Option Tmp} {ty : TypeId} {pos : String} {af : Array Edge} {gd : Option (Nat × Bool)} {x y z : Operand} {t : TypeId} {yt : TypeId}
theorem Wr.eq {k:IntKind} {a c:Int} (h:Wr k a c):k.wrap a=c:=by
 cases h with
 | inK h=>exact wrap_in h
 | wr=>rfl
theorem Bin.ok {op:BinOp} {rd:List Nat} {d:D} (h:Bin P m t op (e x) (e y) rd d):SStep P ⟨dst,.binOp op t x y yt,ty,pos,af,gd⟩ e m rd d []:=by
 generalize hx:e x=d1 at h
 generalize hy:e y=d2 at h
 cases h with
 | add h=>rw[←h.eq];exact zn8 hx hy
 | sub h=>rw[←h.eq];exact ztw hx hy
 | mul h=>rw[←h.eq];exact zqt hx hy
 | quo h=>exact ziG hx hy h
 | rem h=>exact zcw hx hy h
 | and=>exact zsl hx hy
 | or=>exact S_or hx hy
 | xor=>exact zhK hx hy
 | andNot=>exact zqu hx hy
 | shl h=>exact ziH hx hy h
 | shr h=>exact zeD hx hy h
 | lss=>exact zam hx hy
 | leq=>exact zsm hx hy
 | gtr=>exact zbr hx hy
 | geq=>exact zm5 hx hy
 | eqI=>exact zdp hx hy
 | neI=>exact za1 hx hy
 | eqS=>exact zml hx hy
 | neS=>exact zr5 hx hy
 | eqB=>exact ztx BoolI.out hx hy
 | neB=>exact zty BoolI.out hx hy
 | eqA h1 h2 hc hu hz=>subst hx hy;exact ze6 h1 h2 hc hu hz
 | neA h1 h2 hc hu hz=>subst hx hy;exact zdU h1 h2 hc hu hz
theorem Pu.ok {op:Op} {rd:List Nat} {d:D} (h:Pu P e m op rd d):SStep P ⟨dst,op,ty,pos,af,gd⟩ e m rd d []:=by
 cases h with
 | @move x _ h=>generalize hx:e x=d1 at h;cases h<;>(rw[←hx];exact ztv)
 | @assign x _ h=>generalize hx:e x=d1 at h;cases h<;>(rw[←hx];exact zqs)
 | @load t x _ _ h =>
  generalize hx:e x=d1 at h
  cases h with
  | rp hr=>exact zoa hx hr
  | ptr hm hc=>exact zaI hx hm hc
  | ptrs hm hl=>exact zgy hx hm hl
  | rptr hm he hr=>exact zbn hx hm he hr
 | @fad t x i _ _ h =>
  generalize hx:e x=d1 at h
  cases h with
  | rp hs=>exact zhO hs hx
  | ptr hs=>exact zgz hs hx
  | rptr hs hm=>exact zf7 hs hx hm
 | @fld t x i _ h =>
  generalize hx:e x=d1 at h
  cases h with
  | dat hr=>exact zso hx hr
  | aggd hr=>exact zj8 hx hr
 | eqNil h=>exact zqL h
 | bin h=>exact h.ok
 | not h=>exact ztR h
 | @pick x y z _ h =>
  generalize hx:e x=d1 at h
  generalize hy:e y=d2 at h
  generalize hz:e z=d3 at h
  cases h with
  | T=>exact zmm hx (fun _ C m v hv=>by rw[hy]at hv;rw[za4 hv];exact zaY) (fun hb=>by cases hb)
  | F=>exact zmm hx (fun hb=>by cases hb) (fun _ C m v hv=>by rw[hz]at hv;rw[za4 hv];exact zaY)
  | and=>exact zm6 hx hy hz
  | or=>exact zoe hx hy hz
 | @len t x _ _ h =>
  generalize hx:e x=d1 at h
  cases h with
  | slice=>exact zlg hx
  | own hm=>exact zob hx hm
  | str=>exact zod hx
  | nil=>exact zoc hx
 | min h1 h2=>exact zsp h1 h2
 | max h1 h2=>exact ztS h1 h2
 | extract h hi=>exact zn9 h hi
 | conv h hw=>rw[←hw.eq];exact zsB h
 | @nilCheck x _ h =>
  generalize hx:e x=d1 at h
  cases h with
  | ptr=>exact zhN hx
  | rp=>exact ziI hx
  | fn=>exact ziJ hx
 | build h=>exact zsz h
 | buildA h=>exact zqC h
 | lit h hl hb hb2=>exact ztV h hl hb hb2
 | makeFunc h=>exact zbv h
 | @ixa t x y _ h =>
  generalize hx:e x=d1 at h
  generalize hy:e y=d2 at h
  cases h with
  | slice hi hc hl=>exact zaT hx hy hi hc hl
  | arr hi hc=>exact zbV hx hy hi hc
 | index h1 h2 hi hc hr=>exact zj7 h1 h2 hi hc hr
end
end Go.Proofs.YtcdhlofhhcgohaaGreat
namespace Go.Proofs.YtcdhlofhhcgohaaGreat
open Go.RowKit
theorem zct {P:Program} {Q:Exit→St→Prop} {env:Env} {mem:Mem} {nt id:Nat} {t u v:Tmp} {T el:TypeId} {ty1 ty2:TypeId} {pos1 pos2:String} {af1 af2:Array Edge} {yt:TypeId} {n:Bool} {xs:List (List V)} [hu:SlcI P T el]
  (h:Env.at env u = .dat n (.slice xs)) (ht:Nat.blt t nt=true) (hv:Nat.blt v nt=true)
  (k1:xs=[]→Q .normal ⟨(v,.dat true (.bool true))::(t,.nil)::env,mem,nt⟩) (k2:Q .normal ⟨(v,.dat true (.bool false))::(t,.dat n (.slice xs))::env,mem,nt⟩) :
  DW P (.region id #[⟨some t,.move (.tmp u),ty1,pos1,af1,none⟩,⟨some v,.binOp .eql T (.tmp t) (.const (.slice none 0 0)) yt,ty2,pos2,af2,none⟩] false) Q ⟨env,mem,nt⟩:=by
 intro C a hh
 have hr:=hh.env u
 rw[show(St.mk env mem nt).env=env from rfl,h]at hr
 have hsl:∃ b l c,a.tmps.getD u undef = .slice b l c∧(b=none→xs=[]∧l=0∧c=0):=by
  have hr:Rd (C.D n) C.w (.slice xs) (a.tmps.getD u undef):=hr
  generalize a.tmps.getD u undef=x at hr
  cases hr with
  | nil=>exact⟨none,0,0,rfl,fun _=>⟨rfl,rfl,rfl⟩⟩
  | mt a cap hm=>exact⟨some a,0,cap,rfl,fun h=>by cases h⟩
  | slice _ b off cap sz cell=>exact⟨some _,_,_,rfl,fun h=>by cases h⟩
 obtain⟨b,l,c,hval,hnone⟩:=hsl
 have hev:a.eval (.tmp u) = .slice b l c:=hval
 have hlt:t<a.tmps.size:=by rw[hh.size];simpa[Nat.blt_eq]using ht
 refine wp_region_lit (l := [⟨some t,.move (.tmp u),ty1,pos1,af1,none⟩,⟨some v,.binOp .eql T (.tmp t) (.const (.slice none 0 0)) yt,ty2,pos2,af2,none⟩]) ?_
 refine wpList_step fun K hK=>?_
 rw[if_pos (by simp[Region.wanted])]
 refine zaC (w':=C.w) (v := .slice b l c) (by simp[execOp,hev]) (hK _ _ ?_)
 refine wpList_step fun K2 hK2=>?_
 rw[if_pos (by simp[Region.wanted])]
 have hev2:(a.put (some t) (.slice b l c)).eval (.tmp t) = .slice b l c:=by
  show(a.put (some t) (.slice b l c)).tmps.getD t undef=_
  simp[Act.put,hlt]
 have hq:=run_equal_slice_nil (P:=P) C.w T el b l c hu.out
 have hb:binOp .eql T (.slice b l c) (.slice none 0 0)=(do pure (.bool (←Op.equal T (.slice b l c) (.slice none 0 0)))):=rfl
 have he:(a.put (some t) (.slice b l c)).eval (.const (.slice none 0 0)) = .slice none 0 0:=rfl
 refine zaC (w':=C.w) (v := .bool b.isNone) (by simp[execOp,hev2,he,eqGuard,hb,hq]) (hK2 _ _ ?_)
 have mk:∀ d:D,RdD C mem d (.slice b l c)→Holds C ⟨(v,.dat true (.bool b.isNone))::(t,d)::env,mem,nt⟩ (((a.put (some t) (.slice b l c)).put (some v) (.bool b.isNone))):=fun d hd=>by
  have h1:=zcQ (wr := []) (val:=d) (v := .slice b l c) (dst:=some t) hh (Step.refl hh.mem) hd ht
  exact zcQ (wr := []) (val := .dat true (.bool b.isNone)) (v := .bool b.isNone) (dst:=some v) h1 (Step.refl hh.mem) zaY hv
 cases b with
 | none =>
  obtain⟨h1,h2,h3⟩:=hnone rfl
  subst h2 h3
  exact⟨C,_,rfl,k1 h1,mk .nil rfl,Ext.refl _ _⟩
 | some b =>
  refine⟨C,_,rfl,k2,mk (.dat n (.slice xs)) ?_,Ext.refl _ _⟩
  rw[←hval];exact hr
def DWin (P:Program) (c:Code) (Q:Exit→St→Prop) (s:St):Prop :=
 ∀ (C:Cf) (a:Act),Holds C s a→∀ b k cs,∃ e a' w',(∃ C' s',C'.w=w'∧Q e s'∧Holds C' s' a'∧Ext C s.mem C' s'.mem)∧Arrives P (lone (b.at a (.code c :: .inLoop c::k)) cs C.w) b k cs e a' w'
theorem zdB {P:Program} {c:Code} {Q:Exit→St→Prop} {s:St} (h:DWin P c Q s):DW P (.loop c) Q s:=by
 intro C a hh b k cs
 obtain⟨e,a',w',hq,harr⟩:=h C a hh b k cs
 exact⟨e,a',w',hq,.of_steps (.one step_loop) harr⟩
theorem zcS {P:Program} {c:Code} {Q:Exit→St→Prop} {s:St} (h:DW P c (zaG (DWin P c Q) Q) s):DWin P c Q s:=by
 intro C a hh b k cs
 obtain⟨e,a2,w2,⟨C2,s2,rfl,q2,h2,x2⟩,harr⟩:=h C a hh b (.inLoop c::k) cs
 cases e with
 | normal =>
  obtain⟨e4,a4,w4,⟨C4,s4,hw4,q4,h4,x4⟩,harr4⟩:=q2 C2 a2 h2 b k cs
  exact⟨e4,a4,w4,⟨C4,s4,hw4,q4,h4,x2.trans x4⟩,.of_steps (Steps.trans harr (.one step_inLoop)) harr4⟩
 | exit id=>exact⟨_,a2,_,⟨C2,s2,rfl,q2,h2,x2⟩,.pass (x := .inLoop c) rfl (fun _ _=>.inl (by simp)) harr⟩
 | goto l=>exact⟨_,a2,_,⟨C2,s2,rfl,q2,h2,x2⟩,.pass (x := .inLoop c) rfl (fun _ _=>.inl (by simp)) harr⟩
 | ret=>exact⟨_,a2,_,⟨C2,s2,rfl,q2,h2,x2⟩,.pass (x := .inLoop c) rfl (fun _ _=>.inl (by simp)) harr⟩
 | panic ch=>exact⟨_,a2,_,⟨C2,s2,rfl,q2,h2,x2⟩,.pass (x := .inLoop c) rfl (fun _ _=>.inl (by simp)) harr⟩
 | outgrown=>exact⟨_,a2,_,⟨C2,s2,rfl,q2,h2,x2⟩,.pass (x := .inLoop c) rfl (fun _ _=>.inl (by simp)) harr⟩
class CellsI {α:Type} (f:α→List V) (s:outParam Nat):Prop where
 len:∀ a,(f a).length=s
 one:∀ a,∀ d∈f a,d.one=true
class FlatI {α:Type} (f:α→List V):Prop where
 flat:∀ a,∀ d∈f a,Flat d
def zak (b:UInt8):List V := [.int .u8 b.toNat]
instance : CellsI zak 1:=⟨fun _=>rfl,fun _ d h=>by simp[zak]at h;subst h;rfl⟩
instance : FlatI zak:=⟨fun _ d h=>by simp[zak]at h;subst h;exact .int _ _⟩
theorem znc (l:List UInt8):zbZ l=l.map zak:=rfl
theorem zfU {α:Type} {f:α→List V} {s:Nat} [h:CellsI f s] (l:List α):∀ e∈l.map f,e.length=s∧∀ d∈e,d.one=true:=fun e he=>by
 obtain⟨a,_,rfl⟩:=List.mem_map.1 he
 exact⟨h.len a,h.one a⟩
theorem zgN {α:Type} {f:α→List V} {s:Nat} [h:CellsI f s] (l:List α):∀ e∈l.map f,e.length=s:=fun e he=>(zfU l e he).1
theorem zgl {α:Type} {f:α→List V} [h:FlatI f] (l:List α):∀ e∈l.map f,∀ d∈e,Flat d:=fun e he=>by
 obtain⟨a,_,rfl⟩:=List.mem_map.1 he
 exact h.flat a
section
variable {P : Program} {e : Operand → D} {m : Mem} {dst : Option Tmp} {ty : TypeId} {pos : String} {af : Array Edge} {gd : Option (Nat × Bool)} {x y : Operand} {t : TypeId}
inductive AppR (m:Mem) (s:Nat):D→Bool→List (List V)→Prop
 | dat (n:Bool) (els:List (List V)):AppR m s (.dat n (.slice els)) n els
 | nil:AppR m s .nil true []
 | own (g ver lo len:Nat) (frz nw:Bool) (xs:List (List V)) (h:m.at g = .row ver frz nw s xs):AppR m s (.own g ver lo len) nw ((xs.drop lo).take len)
theorem AppR.d {α:Type} {f:α→List V} {s:Nat} [hf:CellsI f s] {m:Mem} {d:D} {n:Bool} {els:List (List V)} {bs:List α} (h:AppR m s d n els) (he:els=bs.map f):AppD m d s n (bs.map f):=by
 rw[←he]
 cases h with
 | dat n els=>exact .dat n _ s (by rw[he];exact zgN bs)
 | nil=>exact .nil s
 | own g ver lo len frz nw xs h=>exact .own g ver lo len s frz n xs h
theorem zab {op:Op} {rd:List Nat} {a b:Bool} (h:SStep P ⟨dst,op,ty,pos,af,gd⟩ e m rd (.dat true (.bool a)) []) (hb:a=b):SStep P ⟨dst,op,ty,pos,af,gd⟩ e m rd (.dat true (.bool b)) []:=by
 subst hb;exact h
theorem zan {α:Type} {f:α→List V} {us bs:List α} {g ver len s by_ el:Nat} {agg n nw nf:Bool} {zs:List V} [hu:SlcI P t el] [ht:TyI P el agg s by_ zs] [hf:CellsI f s]
  (h1:e x = .own g ver 0 len) (hmg:m.at g = .row ver false nw s (us.map f)) {els:List (List V)} (h2':AppR m s (e y) n els) (he:els=bs.map f) (hlx:len=us.length) (hnf:nf=(nw && n)∨(nf=nw∧FlatI f)) (hs:Nat.blt 0 s=true)
  (hb:(us.length+bs.length)*(by_+1)≤140737488355328) :
  SStep P ⟨dst,.call { callee := .builtin .append,args := #[x,y],argTypes := #[t,t] },ty,pos,af,gd⟩ e m (g::refs0 (e y)) (.own g (ver+1) 0 (us++bs).length) [(g,.row (ver+1) false nf s ((us++bs).map f))]:=by
 have hs:0<s:=by simpa[Nat.blt_eq]using hs
 have h2:=h2'.d he
 have go:∀ nf',(nf'=n∨FlatI f)→SStep P ⟨dst,.call { callee := .builtin .append,args := #[x,y],argTypes := #[t,t] },ty,pos,af,gd⟩ e m (g::refs0 (e y)) (.own g (ver+1) 0 (us++bs).length) [(g,.row (ver+1) false (nw && nf') s ((us++bs).map f))]:=fun nf' h=>by
  have:=zoy (P:=P) (t:=t) (el:=el) (by_:=by_) (zs:=zs) (agg:=agg) (dst:=dst) (ty:=ty) (pos:=pos) (af:=af) (gd:=gd) (nf:=nf') h1 hmg h2 (by simp[hlx]) (zfU bs) (h.imp id (fun h=>zgl (h:=h) bs)) hs (by simpa[hlx]using hb)
  rw[List.length_append,List.map_append]
  simpa[hlx]using this
 rcases hnf with rfl|⟨rfl,hfl⟩
 ·exact go n (.inl rfl)
 ·have:=go true (.inr hfl)
  simpa using this
theorem zlr {α:Type} {f:α→List V} {bs:List α} {s by_ el:Nat} {agg n nf:Bool} {zs:List V} (g:Nat) [hu:SlcI P t el] [ht:TyI P el agg s by_ zs] [hf:CellsI f s]
  (h1:e x = .nil) {els:List (List V)} (h2':AppR m s (e y) n els) (he:els=bs.map f) (hnf:nf=n∨FlatI f) (hs:Nat.blt 0 s=true) (hb:bs.length*(by_+1)≤140737488355328) (hg:m.at g = .gone) :
  SStep P ⟨dst,.call { callee := .builtin .append,args := #[x,y],argTypes := #[t,t] },ty,pos,af,gd⟩ e m (refs0 (e y)) (.own g 1 0 bs.length) [(g,.row 1 false nf s (bs.map f))]:=by
 have hs:0<s:=by simpa[Nat.blt_eq]using hs
 have h2:=h2'.d he
 have:=zoz (P:=P) (t:=t) (el:=el) (by_:=by_) (zs:=zs) (agg:=agg) (dst:=dst) (ty:=ty) (pos:=pos) (af:=af) (gd:=gd) (nf:=nf) g h1 h2 (zfU bs) (hnf.imp id (fun h=>zgl (h:=h) bs)) hs (by simpa using hb) hg
 simpa using this
theorem zba {α:Type} {f:α→List V} {us:List α} {u a:α} {agg nw n nf:Bool} {s by_ g ver i off sz:Nat} {zs:List V} {vs:List V} [ht:TyI P t agg s by_ zs] [hf:CellsI f sz] (h:e x = .rptr g ver i off) (hmg:m.at g = .row ver false nw sz (us.map f)) (he:us[i]? = some u)
  (hd:D.vcells m (e y)=some (n,vs)) (hset:zcn (f u) off vs=f a) (hnf:nf=(nw && n)∨(nf=nw∧FlatI f)) (hl:vs.length=s) (hle:Nat.ble (off+s) sz=true) :
  SStep P ⟨none,.store t x y,ty,pos,af,gd⟩ e m (g::refs m (e y)) .any [(g,.row ver false nf sz ((us.set i a).map f))]:=by
 have hle':=Nat.le_of_ble_eq_true hle
 have hvs:∀ d∈vs,d∈f a:=fun d hd=>by
  rw[←hset]
  unfold zcn
  exact List.mem_append.2 (.inr (List.mem_append.2 (.inl hd)))
 have h1:vs.all V.one=true:=List.all_eq_true.2 (fun d hd=>hf.one a d (hvs d hd))
 have he':(us.map f)[i]? = some (f u):=by simp[he]
 have hel:Nat.ble (off+s) (f u).length=true:=by rw[hf.len];exact hle
 have hrow:(us.map f).set i (zcn (f u) off vs)=(us.set i a).map f:=by rw[hset,List.map_set]
 have go:∀ nf',(nf'=n∨∀ d∈vs,Flat d)→SStep P ⟨none,.store t x y,ty,pos,af,gd⟩ e m (g::refs m (e y)) .any [(g,.row ver false (nw && nf') sz ((us.set i a).map f))]:=fun nf' hq=>by
  rw[←hrow]
  exact zqK (nf:=nf') h hmg he' hd hq h1 hl hel
 rcases hnf with rfl|⟨rfl,hfl⟩
 ·exact go n (.inl rfl)
 ·have:=go true (.inr (fun d hd=>hfl.flat a d (hvs d hd)))
  simpa using this
theorem zaf {α:Type} {f:α→List V} {us:List α} {n n':Bool} {k:IntKind} {i:Int} {el s by_:Nat} {agg:Bool} {zs:List V} {u:α} [hu:SlcI P t el] [ht:TyI P el agg s by_ zs] [hf:CellsI f s]
  (h1:e x = .dat n (.slice (us.map f))) (h2:e y = .dat n' (.int k i)) (hi:0≤i) (hc:us[i.toNat]? = some u) :
  SStep P ⟨dst,.indexAddr t x y,ty,pos,af,gd⟩ e m [] (.dat n (.rp (f u))) []:=zaT h1 h2 hi (by simp[hc]) (hf.len u)
theorem zc7 {α:Type} {f:α→List V} {us:List α} {n':Bool} {k:IntKind} {i:Int} {el s by_ g ver len:Nat} {agg frz nw:Bool} {zs:List V} [hu:SlcI P t el] [ht:TyI P el agg s by_ zs]
  (h1:e x = .own g ver 0 len) (h2:e y = .dat n' (.int k i)) (hm:m.at g = .row ver frz nw s (us.map f)) (hi:0≤i) (hc:i<len) :
  SStep P ⟨dst,.indexAddr t x y,ty,pos,af,gd⟩ e m [g] (.rptr g ver i.toNat 0) []:=by
 have:=ziK (P:=P) (t:=t) (el:=el) (by_:=by_) (zs:=zs) (agg:=agg) (dst:=dst) (ty:=ty) (pos:=pos) (af:=af) (gd:=gd) h1 h2 hm hi hc
 rwa[Nat.zero_add]at this
theorem ziX {α:Type} {f:α→List V} {el s by_ l c:Nat} {agg n1 n2:Bool} {k1 k2:IntKind} {zs:List V} {a b:Int} (z:α) (g:Nat) [hu:SlcI P t el] [ht:TyI P el agg s by_ zs] (h1:e x = .dat n1 (.int k1 a)) (h2:e y = .dat n2 (.int k2 b)) (ha:a=(l:Int)) (hb:b=(c:Int)) (hlc:l≤c)
  (hby:c*(by_+1)≤140737488355328) (hz:f z=zs) (hg:m.at g = .gone) :
  SStep P ⟨dst,.makeSlice t x y,ty,pos,af,gd⟩ e m [] (.own g 0 0 l) [(g,.row 0 false true s ((List.replicate l z).map f))]:=by
 have:=zou (P:=P) (t:=t) (el:=el) (by_:=by_) (zs:=zs) (agg:=agg) (dst:=dst) (ty:=ty) (pos:=pos) (af:=af) (gd:=gd) g h1 h2 ha hb hlc hby hg
 rw[List.map_replicate,hz]
 exact this
end
end Go.Proofs.YtcdhlofhhcgohaaGreat
namespace Go.Proofs.YtcdhlofhhcgohaaGreat
open Go.RowKit
inductive Stp : Prop→Prop→Prop
 | seq {P:Program} {x y:Code} {Q:Exit→St→Prop} {s:St}:Stp (DW P x (zaG (DW P y Q) Q) s) (DW P (.seq x y) Q s)
 | region {P:Program} {id:Nat} {l:List Oper} {Q:Exit→St→Prop} {s:St}:Stp (DOps P l.toArray l s [] (fun _ s'=>Q .normal s')) (DW P (.region id l.toArray false) Q s)
 | draw {P:Program} {id:Nat} {l:List Oper} {Q:Exit→St→Prop} {s:St}:Stp (DOps P l.toArray l s [] (fun acc s'=>chk l acc=true∧Q .normal s')) (DW P (.region id l.toArray true) Q s)
 | nilP {P:Program} {ops:Array Oper} {Q:Exit→St→Prop} {s:St} {acc:List (List Nat×List Nat)}:Stp (Q .normal s) (DOps P ops [] s acc (fun _ s'=>Q .normal s'))
 | tn {K:St→Prop} {Q:Exit→St→Prop} {s:St}:Stp (K s) (zaG K Q .normal s)
 | te {K:St→Prop} {Q:Exit→St→Prop} {s:St} {id:Nat}:Stp (Q (.exit id) s) (zaG K Q (.exit id) s)
 | tr {K:St→Prop} {Q:Exit→St→Prop} {s:St}:Stp (Q .ret s) (zaG K Q .ret s)
 | block {P:Program} {id:Nat} {c:Code} {Q:Exit→St→Prop} {s:St}:Stp (DW P c (zaE id Q) s) (DW P (.block id c) Q s)
 | bn {id:Nat} {Q:Exit→St→Prop} {s:St}:Stp (Q .normal s) (zaE id Q .normal s)
 | br {id:Nat} {Q:Exit→St→Prop} {s:St}:Stp (Q .ret s) (zaE id Q .ret s)
 | le {X:Type} {inv:X→St} {R:X→Prop} {μ:X→Nat} {x:X} {Q:Exit→St→Prop} {s:St} {id:Nat}:Stp (Q (.exit id) s) (zaJ inv R μ x Q (.exit id) s)
 | lr {X:Type} {inv:X→St} {R:X→Prop} {μ:X→Nat} {x:X} {Q:Exit→St→Prop} {s:St}:Stp (Q .ret s) (zaJ inv R μ x Q .ret s)
 | ret {P:Program} {Q:Exit→St→Prop} {s:St}:Stp (Q .ret s) (DW P .ret Q s)
 | exit {P:Program} {Q:Exit→St→Prop} {s:St} {id:Nat}:Stp (Q (.exit id) s) (DW P (.exit id) Q s)
 | skip {P:Program} {Q:Exit→St→Prop} {s:St}:Stp (Q .normal s) (DW P .skip Q s)
theorem Wa {p q:Prop} (a:Stp p q) (k:p):q:=by
 cases a with
 | seq=>exact zoj k
 | region=>exact zok k
 | draw=>exact zsy k
 | nilP=>exact ztW k
 | tn=>exact zlj k
 | te=>exact zol k
 | tr=>exact zqy k
 | block=>exact zqx k
 | bn=>exact zm8 k
 | br=>exact zst k
 | le=>exact zom k
 | lr=>exact zqz k
 | ret=>exact zgB k
 | exit=>exact zss k
 | skip=>exact zsr k
inductive Put (env:Env) (mem:Mem):Option Tmp→D→Mem→Env→Mem→List Nat→Prop
 | p {t:Tmp} {d:D}:Put env mem (some t) d [] ((t,d)::env) mem []
 | m {t:Tmp} {d:D} {g:Nat} {b:Box}:Put env mem (some t) d [(g,b)] ((t,d)::env) ((g,b)::mem) [g]
 | s {d:D} {g:Nat} {b:Box}:Put env mem none d [(g,b)] env ((g,b)::mem) [g]
 | m2 {t:Tmp} {d:D} {g g2:Nat} {b b2:Box}:Put env mem (some t) d [(g,b),(g2,b2)] ((t,d)::env) ((g,b)::(g2,b2)::mem) [g,g2]
theorem Put.eq {env env':Env} {mem mem':Mem} {dst:Option Tmp} {d:D} {wr:Mem} {ks:List Nat} {n:Nat} (h:Put env mem dst d wr env' mem' ks):St.put ⟨env,mem,n⟩ dst d wr=⟨env',mem',n⟩∧wr.map (·.1)=ks:=by
 cases h<;>exact⟨rfl,rfl⟩
section
variable {P : Program} {ops : Array Oper} {r : List Oper} {env env' : Env} {mem mem' : Mem} {nt : Nat} {acc : List (List Nat × List Nat)} {K : List (List Nat × List Nat) → St → Prop} {rd ks : List Nat} {val : D} {wr : Mem}
 {dst:Option Tmp} {op:Op} {ty:TypeId} {pos:String} {af:Array Edge}
theorem dX (hd:dOK ⟨env,mem,nt⟩ dst=true) (h:SStep P ⟨dst,op,ty,pos,af,none⟩ (ev ⟨env,mem,nt⟩) mem rd val wr) (hp:Put env mem dst val wr env' mem' ks) (k:DOps P ops r ⟨env',mem',nt⟩ ((rd,ks)::acc) K) :
  DOps P ops (⟨dst,op,ty,pos,af,none⟩::r) ⟨env,mem,nt⟩ acc K:=by
 obtain⟨e1,e2⟩:=hp.eq (n:=nt)
 refine dstep hd (.plain rfl h) ?_
 rw[e1,e2];exact k
theorem Da {j:Nat} {b:Bool} (hd:dOK ⟨env,mem,nt⟩ dst=true) (hj:zbH b (zda ⟨env,mem,nt⟩ ops j)=some true) (h:SStep P ⟨dst,op,ty,pos,af,some (j,b)⟩ (ev ⟨env,mem,nt⟩) mem rd val wr) (hp:Put env mem dst val wr env' mem' ks)
  (k:DOps P ops r ⟨env',mem',nt⟩ ((rd,ks)::acc) K):DOps P ops (⟨dst,op,ty,pos,af,some (j,b)⟩::r) ⟨env,mem,nt⟩ acc K:=by
 obtain⟨e1,e2⟩:=hp.eq (n:=nt)
 refine dstep hd (.on rfl hj h) ?_
 rw[e1,e2];exact k
theorem Db {t:Nat} {j:Nat} {b q:Bool} (hd:Nat.blt t nt=true) (hj:zbH b (zda ⟨env,mem,nt⟩ ops j)=some q) (hn:q=true→needs ⟨env,mem,nt⟩ op.operands.toList)
  (h:q=true→SStep P ⟨some t,op,ty,pos,af,some (j,b)⟩ (fun x=>ung (ev ⟨env,mem,nt⟩ x)) mem rd val []) (hp:Put env mem (some t) (.grd q val) [] env' mem' ks)
  (k:DOps P ops r ⟨env',mem',nt⟩ ((rd,ks)::acc) K):DOps P ops (⟨some t,op,ty,pos,af,some (j,b)⟩::r) ⟨env,mem,nt⟩ acc K:=by
 cases hp with
 | p=>exact ztU hd hj hn h k
end
inductive Cmp : BinOp→Int→Int→Prop→Prop
 | eql {a b:Int}:Cmp .eql a b (a=b)
 | neq {a b:Int}:Cmp .neq a b (a≠b)
 | lss {a b:Int}:Cmp .lss a b (a<b)
 | leq {a b:Int}:Cmp .leq a b (a≤b)
 | gtr {a b:Int}:Cmp .gtr a b (b<a)
 | geq {a b:Int}:Cmp .geq a b (b≤a)
section
variable {P : Program} {e : Operand → D} {m : Mem} {dst : Option Tmp} {ty : TypeId} {pos : String} {af : Array Edge} {gd : Option (Nat × Bool)} {x y : Operand} {t : TypeId} {yt : TypeId}
theorem S_al {u:Tmp} {agg:Bool} {s by_:Nat} {zs:List V} [ht:TyI P t agg s by_ zs] (hg:m.at u = .gone):SStep P ⟨some u,.alloc t,ty,pos,af,gd⟩ e m [] (.ptr u 0) [(u,.cells false true (zs.map V.zD))]:=zaF u hg
theorem S_bx {u:Tmp} {cs:List D} (hc:(e x).cells=some cs) (hg:m.at u = .gone):SStep P ⟨some u,.box t x,ty,pos,af,gd⟩ e m [] (.ptr u 0) [(u,.cells false true cs)]:=ztT u hc hg
theorem Ca {op:BinOp} {n1 n2:Bool} {k:IntKind} {a b:Int} {p:Prop} (h1:e x = .dat n1 (.int k a)) (h2:e y = .dat n2 (.int k b)) (c:Cmp op a b p) (h:p):SStep P ⟨dst,.binOp op t x y yt,ty,pos,af,gd⟩ e m [] (.dat true (.bool true)) []:=by
 cases c with
 | eql=>exact zab (zdp h1 h2) (decide_eq_true h)
 | neq=>exact zab (za1 h1 h2) (decide_eq_true h)
 | lss=>exact zab (zam h1 h2) (decide_eq_true h)
 | leq=>exact zab (zsm h1 h2) (decide_eq_true h)
 | gtr=>exact zab (zbr h1 h2) (decide_eq_true h)
 | geq=>exact zab (zm5 h1 h2) (decide_eq_true h)
theorem Cb {op:BinOp} {n1 n2:Bool} {k:IntKind} {a b:Int} {p:Prop} (h1:e x = .dat n1 (.int k a)) (h2:e y = .dat n2 (.int k b)) (c:Cmp op a b p) (h:¬p):SStep P ⟨dst,.binOp op t x y yt,ty,pos,af,gd⟩ e m [] (.dat true (.bool false)) []:=by
 cases c with
 | eql=>exact zab (zdp h1 h2) (decide_eq_false h)
 | neq=>exact zab (za1 h1 h2) (decide_eq_false h)
 | lss=>exact zab (zam h1 h2) (decide_eq_false h)
 | leq=>exact zab (zsm h1 h2) (decide_eq_false h)
 | gtr=>exact zab (zbr h1 h2) (decide_eq_false h)
 | geq=>exact zab (zm5 h1 h2) (decide_eq_false h)
end
theorem Wg {P:Program} {Q:Exit→St→Prop} {s:St} {c:Operand} {x y:Code} {n:Bool} {p:Prop} [Decidable p] (hc:ev s c = .dat n (.bool (decide p))) (hb:p) (h:DW P x Q s):DW P (.cond c x y) Q s:=zfr hc (decide_eq_true hb) h
theorem Wh {P:Program} {Q:Exit→St→Prop} {s:St} {c:Operand} {x y:Code} {n:Bool} {p:Prop} [Decidable p] (hc:ev s c = .dat n (.bool (decide p))) (hb:¬p) (h:DW P y Q s):DW P (.cond c x y) Q s:=zcs hc (decide_eq_false hb) h
theorem Wk_g {s e:St} (ρ:Nat→Option Nat) (hn:s.n=e.n) (hinj:zev ρ (e.mem.map (·.1))=true) (h:zeI s e ρ e.mem∧zeH s e ρ e.env):Wk s e:=zfR ρ hn hinj h.1 h.2
end Go.Proofs.YtcdhlofhhcgohaaGreat
