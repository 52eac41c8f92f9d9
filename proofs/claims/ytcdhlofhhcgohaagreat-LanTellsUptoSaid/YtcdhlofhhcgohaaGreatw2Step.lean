/- The D-machine, part 2: what one operation does (SStep), and its rules for operations that make no memory. -/
import Derived.Below
import Derived.Calls
import Derived.Control
import Derived.KernelRfl
import Derived.Laws.Sem
import Derived.Laws.World
import Derived.Orders
import Derived.Laws.Strings
namespace Go.Proofs.YtcdhlofhhcgohaaGreat
open Go.RowKit
theorem kq {A:Prop} (h:A:=by(repeat' (first|exact trivial|rfl|exact zas _|exact⟨_,rfl,.inl rfl⟩|exact⟨_,rfl,.inr (.inl rfl)⟩|exact⟨_,rfl,.inr (.inr rfl)⟩|refine⟨_,_,rfl,rfl,?_⟩|exact⟨_,rfl,rfl⟩|exact⟨_,_,_,_,rfl,rfl,rfl⟩|exact⟨_,rfl⟩|exact⟨_,_,rfl⟩|apply And.intro))):A:=h
theorem kqp {A:Prop} (h:A:=by(repeat' (first|exact zdg rfl rfl rfl|exact trivial|rfl|exact zas _|exact⟨_,rfl,.inl rfl⟩|exact⟨_,rfl,.inr (.inl rfl)⟩|exact⟨_,rfl,.inr (.inr rfl)⟩|refine⟨_,_,rfl,rfl,?_⟩|exact⟨_,rfl,rfl⟩|exact⟨_,_,_,_,rfl,rfl,rfl⟩|exact⟨_,rfl⟩|exact⟨_,_,rfl⟩|apply And.intro))):A:=h
theorem kqf {A:Prop} (h:A:=by(repeat' (first|exact trivial|rfl|exact zas _|exact⟨_,rfl,.inl rfl⟩|exact⟨_,rfl,.inr (.inl rfl)⟩|exact⟨_,rfl,.inr (.inr rfl)⟩|refine⟨_,_,rfl,rfl,?_⟩|exact⟨_,rfl,rfl⟩|exact⟨_,_,_,_,rfl,rfl,rfl⟩|exact⟨_,rfl⟩|exact⟨_,_,rfl⟩|refine⟨_,(rfl:D.fnd _ _=D.fnd _ _),?_⟩|apply And.intro))):A:=h
theorem kqof {A:Prop} (h:A:=by(repeat' (first|exact zt6 rfl rfl rfl|exact trivial|rfl|exact zas _|exact⟨_,rfl,.inl rfl⟩|exact⟨_,rfl,.inr (.inl rfl)⟩|exact⟨_,rfl,.inr (.inr rfl)⟩|refine⟨_,_,rfl,rfl,?_⟩|exact⟨_,rfl,rfl⟩|exact⟨_,_,_,_,rfl,rfl,rfl⟩|exact⟨_,rfl⟩|exact⟨_,_,rfl⟩|refine⟨_,(rfl:D.fnd _ _=D.fnd _ _),?_⟩|apply And.intro))):A:=h
theorem qM {A:Prop} (h:A:=by first|exact S_al rfl|exact S_bx rfl rfl|exact zbg rfl rfl rfl rfl rfl rfl|(apply Pu.ok;(repeat' (first|rfl|exact .inK (by simp only[InK];omega)|exact .wr|constructor|decide|omega));done)|fail):A:=h
theorem qMo {A:Prop} (h:A:=by first|exact Ca rfl rfl (by constructor) (by omega)|exact Cb rfl rfl (by constructor) (by omega)|exact S_al rfl|exact S_bx rfl rfl|exact zbg rfl rfl rfl rfl rfl rfl|(apply Pu.ok;(repeat' (first|rfl|exact .inK (by simp only[InK];omega)|exact .wr|constructor|decide|omega));done)|fail):A:=h
theorem qN {A:Prop} (h:A:=by intro h;first|trivial|exact⟨h,trivial⟩|exact⟨h,h,trivial⟩):A:=h
theorem qF {A:Prop} (h:A:=by first|exact .inl rfl|exact .inr (zor rfl)):A:=h
theorem qU {A B:Prop} (k:A) (h:A→B:=by first|exact fun k=>Wa (by constructor) k|exact fun k=>Wb rfl k|exact fun k=>Wc rfl k|exact fun k=>Wd (by kernel_rfl) k|exact fun k=>We rfl k|exact fun k=>Wf rfl k|exact fun k=>Wi rfl rfl k):B:=h k
theorem qV {A B:Prop} (k:A) (h:A→B:=by first|exact fun k=>Va (by constructor) k|exact fun k=>Wa (by constructor) k|exact fun k=>Wb rfl k|exact fun k=>Wc rfl k|exact fun k=>Wd (by kernel_rfl) k|exact fun k=>znn rfl k|exact fun k=>zno rfl k|exact fun k=>Wi rfl rfl k):B:=h k
theorem qW {A B:Prop} (k:A) (h:A→B:=by first|exact fun k=>Wg rfl (by omega) k|exact fun k=>Wh rfl (by omega) k):B:=h k
theorem qX {A B:Prop} (k:A) (h:A→B:=by first|exact fun k=>Vg rfl (by omega) k|exact fun k=>Vh rfl (by omega) k):B:=h k
theorem qP {A B:Prop} (k:A) (h:A→B:=by first|exact fun k=>Pa rfl rfl rfl rfl rfl k|exact fun k=>Po rfl rfl rfl rfl rfl k):B:=h k
inductive V where
 | bool (b:Bool)
 | int (k:IntKind) (n:Int)
 | str (s:List UInt8)
 | slice (xs:List (List V))
 | rp (cs:List V)
 | agg (cs:List V)
 | tuple (vs:List V)
 | fn (f:FuncId) (cap:List V)
 | undef
def V.one : V→Bool
 | .agg _ | .tuple _ | .undef=>false
 | _=>true
inductive D where
 | any
 | nil
 | grd (b:Bool) (d:D)
 | dat (n:Bool) (x:V)
 | own (g ver lo len:Nat)
 | ptr (g off:Nat)
 | rptr (g ver i off:Nat)
 | mp (g:Nat)
 | sl (g n:Nat)
 | aggd (cs:List D)
 | fnd (f:FuncId) (cs:List D)
inductive Box where
 | gone
 | cells (frz nw:Bool) (cs:List D)
 | row (ver:Nat) (frz nw:Bool) (sz:Nat) (xs:List (List V))
 | mapb (kt et:TypeId) (es:List (V×V))
def Box.mut : Box→Bool
 | .gone=>false
 | .cells frz _ _ => !frz
 | .row _ frz _ _ _ => !frz
 | .mapb _ _ _=>true
def look {α:Type} (d:α):List (Nat×α)→Nat→α
 | [],_=>d
 | (k,x)::r,t=>bif Nat.beq k t then x else look d r t
theorem zai {α:Type} (d:α) (k:Nat) (x:α) (r:List (Nat×α)) (t:Nat):look d ((k,x)::r) t=if k=t then x else look d r t:=by
 simp only[look]
 by_cases h:k=t
 ·have:Nat.beq k t=true:=by simpa using h
  simp[h]
 ·have:Nat.beq k t=false:=by
   cases hb:Nat.beq k t
   ·rfl
   ·exact absurd (Nat.eq_of_beq_eq_true hb) h
  simp[this,h]
theorem zcP {α:Type} (d:α) (k:Nat) (x:α) (r:List (Nat×α)):look d ((k,x)::r) k=x:=by simp[zai]
theorem zcL {α:Type} (d:α) (k:Nat) (x:α) (r:List (Nat×α)) (t:Nat) (h:k≠t):look d ((k,x)::r) t=look d r t:=by simp[zai,h]
abbrev Mem := List (Nat×Box)
abbrev Env := List (Nat×D)
def Mem.at (m:Mem) (g:Nat):Box:=look .gone m g
def Env.at (e:Env) (t:Nat):D:=look .any e t
structure Cf where
 ι:Nat→Option Nat
 S:Nat→Prop
 N:Nat→Prop
 w:World
inductive Rd (S:Nat→Prop) (w:World):V→Value→Prop
 | bool (b:Bool):Rd S w (.bool b) (.bool b)
 | int (k:IntKind) (n:Int):Rd S w (.int k n) (.int k n)
 | str (s:List UInt8):Rd S w (.str s) (.string ⟨s.toArray⟩)
 | nil:Rd S w (.slice []) (.slice none 0 0)
 | mt (a:Addr) (cap:Nat) (hm:cap≤maxLen):Rd S w (.slice []) (.slice (some a) 0 cap)
 | slice (xs:List (List V)) (b off cap sz:Nat) (cell:Nat→Nat→Value) (hc:xs.length≤cap) (hm:cap≤maxLen)
   (hsz:∀ (i:Nat) (e:List V),xs[i]? = some e→e.length=sz) (h1:∀ (i j:Nat) (e:List V) (d:V),xs[i]? = some e→e[j]? = some d→d.one=true) (hS:xs≠[]→S b)
   (hw:∀ (i j:Nat) (e:List V) (d:V),xs[i]? = some e→e[j]? = some d→w.cell? ⟨b,off+i*sz+j,none⟩=some (cell i j))
   (hr:∀ (i j:Nat) (e:List V) (d:V),xs[i]? = some e→e[j]? = some d→Rd S w d (cell i j)):Rd S w (.slice xs) (.slice (some ⟨b,off,none⟩) xs.length cap)
 | rp (cs:List V) (b off:Nat) (cell:Nat→Value) (h1:∀ (j:Nat) (d:V),cs[j]? = some d→d.one=true) (hS:S b)
   (hw:∀ (j:Nat) (d:V),cs[j]? = some d→w.cell? ⟨b,off+j,none⟩=some (cell j))
   (hr:∀ (j:Nat) (d:V),cs[j]? = some d→Rd S w d (cell j)):Rd S w (.rp cs) (.pointer (some ⟨b,off,none⟩))
 | agg (cs:List V) (vs:Array Value) (hl:vs.size=cs.length) (hr:∀ (j:Nat) d c,cs[j]? = some d→vs[j]? = some c→Rd S w d c):Rd S w (.agg cs) (.agg vs)
 | tuple (cs:List V) (vs:Array Value) (hl:vs.size=cs.length) (hr:∀ (j:Nat) d c,cs[j]? = some d→vs[j]? = some c→Rd S w d c):Rd S w (.tuple cs) (.tuple vs)
 | fn (f:FuncId) (cap:List V) (vs:Array Value) (hl:vs.size=cap.length) (hr:∀ (j:Nat) d c,cap[j]? = some d→vs[j]? = some c→Rd S w d c):Rd S w (.fn f cap) (.func (.func f) #[] vs)
 | undef (v:Value):Rd S w .undef v
theorem cell_of_block {w w':World} {a:Addr} (h:w'.heap[a.block]? = w.heap[a.block]?):w'.cell? a=w.cell? a:=by
 unfold World.cell?;rw[h]
theorem Rd.mono {S S':Nat→Prop} {w w':World} {x:V} {v:Value} (h:Rd S w x v) (hS:∀ b,S b→S' b) (hw:∀ b,S b→w'.heap[b]? = w.heap[b]?):Rd S' w' x v:=by
 induction h with
 | bool b=>exact .bool b
 | int k n=>exact .int k n
 | str s=>exact .str s
 | nil=>exact .nil
 | mt a cap hm=>exact .mt a cap hm
 | slice xs b off cap sz cell hc hm hsz h1' hS' hw' hr ih =>
  refine .slice xs b off cap sz cell hc hm hsz h1' (fun h=>hS b (hS' h)) (fun i j e d h1 h2=>?_) ih
  have hne:xs≠[]:=by rintro rfl;simp at h1
  rw[cell_of_block (hw b (hS' hne))]
  exact hw' i j e d h1 h2
 | rp cs b off cell h1' hS' hw' hr ih =>
  refine .rp cs b off cell h1' (hS b hS') (fun j d h1=>?_) ih
  rw[cell_of_block (hw b hS')]
  exact hw' j d h1
 | agg cs vs hl hr ih=>exact .agg cs vs hl ih
 | tuple cs vs hl hr ih=>exact .tuple cs vs hl ih
 | fn f cap vs hl hr ih=>exact .fn f cap vs hl ih
 | undef v=>exact .undef v
inductive Flat : V→Prop
 | bool (b:Bool):Flat (.bool b)
 | int (k:IntKind) (n:Int):Flat (.int k n)
 | str (s:List UInt8):Flat (.str s)
 | nil:Flat (.slice [])
 | agg (cs:List V) (h:∀ (j:Nat) d,cs[j]? = some d→Flat d):Flat (.agg cs)
 | tuple (cs:List V) (h:∀ (j:Nat) d,cs[j]? = some d→Flat d):Flat (.tuple cs)
 | undef:Flat .undef
theorem Rd.flat {S S':Nat→Prop} {w w':World} {x:V} {v:Value} (h:Rd S w x v) (hf:Flat x):Rd S' w' x v:=by
 induction h with
 | bool b=>exact .bool b
 | int k n=>exact .int k n
 | str s=>exact .str s
 | nil=>exact .nil
 | mt a cap hm=>exact .mt a cap hm
 | slice xs b off cap sz cell hc hm hsz h1' hS' hw' hr ih =>
  cases hf
  exact .slice [] b off cap sz cell hc hm (by simp) (by simp) (fun h=>absurd rfl h) (by simp) (by simp)
 | rp cs b off cell h1' hS' hw' hr ih=>cases hf
 | agg cs vs hl hr ih=>cases hf with|agg _ hf=>exact .agg cs vs hl (fun j d c h1 h2=>ih j d c h1 h2 (hf j d h1))
 | tuple cs vs hl hr ih=>cases hf with|tuple _ hf=>exact .tuple cs vs hl (fun j d c h1 h2=>ih j d c h1 h2 (hf j d h1))
 | fn f cap vs hl hr ih=>cases hf
 | undef v=>exact .undef v
def Cf.D (C:Cf) (n:Bool):Nat→Prop:=if n then C.N else C.S
def RdF (C:Cf) (n:Bool) (x:V) (v:Value):Prop:=Rd (C.D n) C.w x v
def OwnV (w:World) (sz:Nat) (ob:Option Nat) (lo len:Nat) (v:Value):Prop :=
 match ob with
 | none=>v = .slice none 0 0∧lo=0∧len=0
 | some b=>∃ cap arr T fz,v = .slice (some ⟨b,lo*sz,none⟩) len cap∧w.heap[b]? = some (.cells arr T fz)∧(lo+cap)*sz≤arr.size∧len≤cap∧cap≤maxLen
def RdS (C:Cf) (m:Mem):D→Value→Prop
 | .any,_=>True
 | .nil,v=>v = .slice none 0 0
 | .grd _ _,_=>False
 | .aggd _,_=>False
 | .fnd _ _,_=>False
 | .dat n x,v=>RdF C n x v
 | .own g ver lo len,v=>∃ ver' frz nw sz xs,m.at g = .row ver' frz nw sz xs∧ver≤ver'∧(∃ a l c,v = .slice a l c)∧(ver=ver'→lo+len≤xs.length∧OwnV C.w sz (C.ι g) lo len v)
 | .ptr g off,v=>∃ frz nw cs b,m.at g = .cells frz nw cs∧C.ι g=some b∧v = .pointer (some ⟨b,off,none⟩)
 | .rptr g ver i off,v=>∃ ver' frz nw sz xs,m.at g = .row ver' frz nw sz xs∧ver≤ver'∧(∃ a,v = .pointer a)∧(ver=ver'→i<xs.length∧∃ b,C.ι g=some b∧v = .pointer (some ⟨b,i*sz+off,none⟩))
 | .mp g,v=>∃ kt et es b,m.at g = .mapb kt et es∧C.ι g=some b∧v = .map (some b)
 | .sl g n,v=>∃ frz nw cs b cap,m.at g = .cells frz nw cs∧C.ι g=some b∧v = .slice (some ⟨b,0,none⟩) n cap∧n≤cap∧cap≤maxLen
def RdD (C:Cf) (m:Mem):D→Value→Prop
 | .grd b d,v=>(b=true→RdD C m d v)∧(b=false→v=undef)
 | .aggd cs,v=>∃ vs:Array Value,v = .agg vs∧vs.size=cs.length∧∀ (j:Nat) d c,cs[j]? = some d→vs[j]? = some c→RdS C m d c
 | .fnd f cs,v=>∃ vs:Array Value,v = .func (.func f) #[] vs∧vs.size=cs.length∧∀ (j:Nat) d c,cs[j]? = some d→vs[j]? = some c→RdS C m d c
 | .any,v=>RdS C m .any v
 | .nil,v=>RdS C m .nil v
 | .dat n x,v=>RdS C m (.dat n x) v
 | .own g ver lo len,v=>RdS C m (.own g ver lo len) v
 | .ptr g off,v=>RdS C m (.ptr g off) v
 | .rptr g ver i off,v=>RdS C m (.rptr g ver i off) v
 | .mp g,v=>RdS C m (.mp g) v
 | .sl g n,v=>RdS C m (.sl g n) v
theorem RdS.rd {C:Cf} {m:Mem} {d:D} {v:Value} (h:RdS C m d v):RdD C m d v:=by
 cases d<;>first|exact h|exact h.elim
def Loose (s:Nat) (arr:Array Value) (fz:Nat×Nat):Prop:=(∀ i,i<arr.size→¬(fz.1≤i∧i<fz.2))∧fz.1≤fz.2∧(s=1∨fz.1=fz.2)
def zsk (C:Cf) (m:Mem) (b:Nat) (frz nw:Bool) (cs:List D):Prop :=
 ∃ arr T fz,C.w.heap[b]? = some (.cells arr T fz)∧Loose 1 arr fz∧cs.length≤arr.size∧(∀ (j:Nat) d c,cs[j]? = some d→arr[j]? = some c→RdS C m d c)∧(frz=true→C.D nw b)
def ziF (C:Cf) (b:Nat) (frz nw:Bool) (sz:Nat) (xs:List (List V)):Prop :=
 ∃ arr T fz,C.w.heap[b]? = some (.cells arr T fz)∧Loose sz arr fz∧xs.length*sz≤arr.size∧(∀ (i:Nat) (e:List V),xs[i]? = some e→e.length=sz) ∧
  (∀ (i j:Nat) (e:List V) (d:V),xs[i]? = some e→e[j]? = some d→d.one=true)∧(∀ (i j:Nat) (e:List V) d c,xs[i]? = some e→e[j]? = some d→arr[i*sz+j]? = some c→RdF C nw d c)∧(frz=true→C.N b)
def MapAt (C:Cf) (b:Nat) (es:List (V×V)):Prop :=
 ∃ (ents:Array MapEntry) (clock:Nat),C.w.heap[b]? = some (.map ents clock)∧ents.size=es.length∧clock=es.length ∧
  ∀ (i:Nat) p e,es[i]? = some p→ents[i]? = some e→Rd (fun _=>False) C.w p.1 e.key∧Rd (fun _=>False) C.w p.2 e.val∧e.born=i
def BoxOK (C:Cf) (m:Mem) (ob:Option Nat):Box→Prop
 | .gone=>True
 | .cells frz nw cs=>∃ b,ob=some b∧zsk C m b frz nw cs
 | .row _ frz nw sz xs=>match ob with
  | none=>xs=[]
  | some b=>ziF C b frz nw sz xs
 | .mapb _ _ es=>∃ b,ob=some b∧MapAt C b es
structure HoldsM (C:Cf) (m:Mem):Prop where
 box:∀ g,BoxOK C m (C.ι g) (m.at g)
 inj:∀ g g' b,m.at g ≠ .gone→m.at g' ≠ .gone→C.ι g=some b→C.ι g'=some b→g=g'
 sep:∀ g b,(m.at g).mut=true→C.ι g=some b→¬C.S b
 sdom:∀ b,C.S b→b<C.w.heap.size
 ns:∀ b,C.N b→C.S b
structure Ext (C:Cf) (m:Mem) (C':Cf) (m':Mem):Prop where
 os:C'.w.os=C.w.os
 tape:C'.w.tape=C.w.tape
 output:C'.w.output=C.w.output
 size:C.w.heap.size≤C'.w.heap.size
 keep:∀ b,b<C.w.heap.size→(∀ g,(m.at g).mut=true→C.ι g≠some b)→C'.w.heap[b]? = C.w.heap[b]?
 own:∀ g b,(m'.at g).mut=true→C'.ι g=some b→C.w.heap.size≤b∨∃ g0,(m.at g0).mut=true∧C.ι g0=some b
 sS:∀ b,C.S b→C'.S b
 sN:∀ b,C.N b→C'.N b
 supS:∀ b,C'.S b→C.S b∨C'.N b
 supN:∀ b,C'.N b→C.N b∨C.w.heap.size≤b∨∃ g0,(m.at g0).mut=true∧C.ι g0=some b
theorem Ext.refl (C:Cf) (m:Mem):Ext C m C m :=
 ⟨rfl,rfl,rfl,Nat.le_refl _,fun _ _ _=>rfl,fun g _ h1 h2=>.inr ⟨g,h1,h2⟩,fun _ h=>h,fun _ h=>h,fun _ h=>.inl h,fun _ h=>.inl h⟩
theorem Ext.trans {C C1 C2:Cf} {m m1 m2:Mem} (h:Ext C m C1 m1) (k:Ext C1 m1 C2 m2):Ext C m C2 m2 where
 os:=k.os.trans h.os
 tape:=k.tape.trans h.tape
 output:=k.output.trans h.output
 size:=Nat.le_trans h.size k.size
 keep b hb hn:=by
  rw[k.keep b (Nat.lt_of_lt_of_le hb h.size) (fun g hg hi=>?_),h.keep b hb hn]
  rcases h.own g b hg hi with h1|⟨g0,h1,h2⟩
  ·omega
  ·exact hn g0 h1 h2
 own g b hg hi:=by
  rcases k.own g b hg hi with h1|⟨g0,h1,h2⟩
  ·exact .inl (Nat.le_trans h.size h1)
  ·exact h.own g0 b h1 h2
 sS b hb:=k.sS b (h.sS b hb)
 sN b hb:=k.sN b (h.sN b hb)
 supS b hb:=by
  rcases k.supS b hb with h1|h1
  ·rcases h.supS b h1 with h2|h2
   ·exact .inl h2
   ·exact .inr (k.sN b h2)
  ·exact .inr h1
 supN b hb:=by
  rcases k.supN b hb with h1|h1|⟨g0,h1,h2⟩
  ·exact h.supN b h1
  ·exact .inr (.inl (Nat.le_trans h.size h1))
  ·rcases h.own g0 b h1 h2 with h3|h3
   ·exact .inr (.inl h3)
   ·exact .inr (.inr h3)
theorem RdF.mono {C C':Cf} {m m':Mem} {n:Bool} {x:V} {v:Value} (h:RdF C n x v) (hm:HoldsM C m) (he:Ext C m C' m'):RdF C' n x v:=by
 have hk:∀ b,C.S b→C'.w.heap[b]? = C.w.heap[b]? := fun b hb=>he.keep b (hm.sdom b hb) (fun g hg hi=>hm.sep g b hg hi hb)
 cases n
 ·exact Rd.mono h he.sS hk
 ·exact Rd.mono h he.sN (fun b hb=>hk b (hm.ns b hb))
theorem RdF.weak {C:Cf} {m:Mem} {n:Bool} {x:V} {v:Value} (h:RdF C n x v) (hm:HoldsM C m):RdF C false x v:=by
 cases n
 ·exact h
 ·exact Rd.mono h hm.ns (fun _ _=>rfl)
theorem RdF.flat {C C':Cf} {n n':Bool} {x:V} {v:Value} (h:RdF C n x v) (hf:Flat x):RdF C' n' x v:=Rd.flat h hf
structure Step (C:Cf) (m:Mem) (C':Cf) (m':Mem):Prop where
 ext:Ext C m C' m'
 holds:HoldsM C' m'
 slot:∀ d v,RdD C m d v→RdD C' m' d v
theorem Step.refl {C:Cf} {m:Mem} (h:HoldsM C m):Step C m C m:=⟨.refl C m,h,fun _ _ h=>h⟩
theorem Step.trans {C C1 C2:Cf} {m m1 m2:Mem} (h:Step C m C1 m1) (k:Step C1 m1 C2 m2):Step C m C2 m2 :=
 ⟨h.ext.trans k.ext,k.holds,fun d v hd=>k.slot d v (h.slot d v hd)⟩
end Go.Proofs.YtcdhlofhhcgohaaGreat
namespace Go.Proofs.YtcdhlofhhcgohaaGreat
open Go.RowKit
def SStep (P:Program) (o:Oper) (e:Operand→D) (m:Mem) (rd:List Nat) (val:D) (wr:Mem):Prop :=
 ∀ (C:Cf) (m':Mem) (a:Act) (next:Act→World→Prop) (Q:Exit→Act→World→Prop),
  (∀ g,g∈rd∨g∈wr.map (·.1)→m'.at g=m.at g)→HoldsM C m'→(∀ x,x∈o.op.operands→RdD C m' (e x) (a.eval x)) →
  (∀ v C',Step C m' C' (wr++m')→RdD C' (wr++m') val v→next (a.put o.dst v) C'.w)→o.wp P a C.w next Q
theorem zaC {P:Program} {o:Oper} {a:Act} {w w':World} {next:Act→World→Prop} {Q:Exit→Act→World→Prop} {v:Value}
  (h:(execOp a.eval o).run P w = .ok (.value v) w') (hn:next (a.put o.dst v) w'):o.wp P a w next Q:=by
 unfold Oper.wp;rw[h];exact hn
theorem zfn {P:Program} {o:Oper} {a:Act} {w w':World} {next:Act→World→Prop} {Q:Exit→Act→World→Prop}
  (h:(execOp a.eval o).run P w = .ok .skip w') (hn:next (a.put o.dst undef) w'):o.wp P a w next Q:=by
 unfold Oper.wp;rw[h];exact hn
theorem SStep.pure {P:Program} {o:Oper} {e:Operand→D} {m:Mem} {rd:List Nat} {val:D}
  (h:∀ (C:Cf) (m':Mem) (a:Act),(∀ g,g∈rd→m'.at g=m.at g)→HoldsM C m'→(∀ x,x∈o.op.operands→RdD C m' (e x) (a.eval x)) →
   ∃ v,(execOp a.eval o).run P C.w = .ok (.value v) C.w∧RdD C m' val v):SStep P o e m rd val []:=by
 intro C m' a next Q ha hm hx hn
 obtain⟨v,hr,hv⟩:=h C m' a (fun g hg=>ha g (.inl hg)) hm hx
 exact zaC hr (hn v C (Step.refl hm) hv)
theorem zbq {C:Cf} {m:Mem} {n:Bool} {k:IntKind} {i:Int} {v:Value} (h:RdD C m (.dat n (.int k i)) v):v = .int k i:=by
 cases h;rfl
theorem za4 {C:Cf} {m:Mem} {n:Bool} {b:Bool} {v:Value} (h:RdD C m (.dat n (.bool b)) v):v = .bool b:=by
 cases h;rfl
theorem ze1 {C:Cf} {m:Mem} {n:Bool} {s:List UInt8} {v:Value} (h:RdD C m (.dat n (.str s)) v):v = .string ⟨s.toArray⟩:=by
 cases h;rfl
theorem zbB {C:Cf} {m:Mem} {n:Bool} {k:IntKind} {i:Int}:RdD C m (.dat n (.int k i)) (.int k i):=Rd.int k i
theorem zaY {C:Cf} {m:Mem} {n:Bool} {b:Bool}:RdD C m (.dat n (.bool b)) (.bool b):=Rd.bool b
def _root_.Go.IntKind.andI (k:IntKind) (a b:Int):Int:=k.wrap (BitVec.ofInt k.bits a &&& BitVec.ofInt k.bits b).toNat
def _root_.Go.IntKind.orI (k:IntKind) (a b:Int):Int:=k.wrap (BitVec.ofInt k.bits a ||| BitVec.ofInt k.bits b).toNat
def _root_.Go.IntKind.xorI (k:IntKind) (a b:Int):Int:=k.wrap (BitVec.ofInt k.bits a ^^^ BitVec.ofInt k.bits b).toNat
def _root_.Go.IntKind.andNotI (k:IntKind) (a b:Int):Int:=k.wrap (BitVec.ofInt k.bits a &&& ~~~BitVec.ofInt k.bits b).toNat
def _root_.Go.IntKind.shlI (k:IntKind) (a b:Int):Int:=k.wrap (a*2 ^ (min b.toNat k.bits))
def _root_.Go.IntKind.shrI (k:IntKind) (a b:Int):Int:=a.fdiv (2 ^ (min b.toNat k.bits))
section
variable {P : Program} {e : Operand → D} {m : Mem} {dst : Option Tmp} {ty : TypeId} {pos : String} {af : Array Edge} {gd : Option (Nat × Bool)} {x y z : Operand} {t : TypeId} {yt : TypeId}
theorem ztv : SStep P ⟨dst,.move x,ty,pos,af,gd⟩ e m [] (e x) [] :=
 .pure fun C m' a _ _ hx=>⟨a.eval x,by simp[execOp],hx x (by simp[Op.operands])⟩
theorem zqs : SStep P ⟨dst,.assign x,ty,pos,af,gd⟩ e m [] (e x) [] :=
 .pure fun C m' a _ _ hx=>⟨a.eval x,by simp[execOp],hx x (by simp[Op.operands])⟩
theorem ztR {n:Bool} {b:Bool} (h:e x = .dat n (.bool b)):SStep P ⟨dst,.unOp .not t x,ty,pos,af,gd⟩ e m [] (.dat true (.bool (!b))) [] :=
 .pure fun C m' a _ _ hx=>by
  have h1:=hx x (by simp[Op.operands]);rw[h]at h1
  exact⟨.bool (!b),by simp[execOp,za4 h1,Op.unary],zaY⟩
theorem zeC {op:BinOp} {n1 n2:Bool} {k:IntKind} {a b:Int} {r:Value} {R:D} (h1:e x = .dat n1 (.int k a)) (h2:e y = .dat n2 (.int k b))
  (hr:∀ w,(binOp op t (.int k a) (.int k b)).run P w = .ok r w) (hR:∀ C m,RdD C m R r) :
  SStep P ⟨dst,.binOp op t x y yt,ty,pos,af,gd⟩ e m [] R [] :=
 .pure fun C m' ac _ _ hx=>by
  have g1:=hx x (by simp[Op.operands]);rw[h1]at g1
  have g2:=hx y (by simp[Op.operands]);rw[h2]at g2
  refine⟨r,?_,hR _ _⟩
  simp only[execOp,zbq g1,zbq g2]
  cases op<;>simp[eqGuard,hr]
theorem zn8 {n1 n2:Bool} {k:IntKind} {a b:Int} (h1:e x = .dat n1 (.int k a)) (h2:e y = .dat n2 (.int k b)) :
  SStep P ⟨dst,.binOp .add t x y yt,ty,pos,af,gd⟩ e m [] (.dat true (.int k (k.wrap (a+b)))) []:=zeC h1 h2 (fun w=>by simp[binOp,Op.intArith]) (fun _ _=>zbB)
theorem ztw {n1 n2:Bool} {k:IntKind} {a b:Int} (h1:e x = .dat n1 (.int k a)) (h2:e y = .dat n2 (.int k b)) :
  SStep P ⟨dst,.binOp .sub t x y yt,ty,pos,af,gd⟩ e m [] (.dat true (.int k (k.wrap (a-b)))) []:=zeC h1 h2 (fun w=>by simp[binOp,Op.intArith]) (fun _ _=>zbB)
theorem zqt {n1 n2:Bool} {k:IntKind} {a b:Int} (h1:e x = .dat n1 (.int k a)) (h2:e y = .dat n2 (.int k b)) :
  SStep P ⟨dst,.binOp .mul t x y yt,ty,pos,af,gd⟩ e m [] (.dat true (.int k (k.wrap (a*b)))) []:=zeC h1 h2 (fun w=>by simp[binOp,Op.intArith]) (fun _ _=>zbB)
theorem ziG {n1 n2:Bool} {k:IntKind} {a b:Int} (h1:e x = .dat n1 (.int k a)) (h2:e y = .dat n2 (.int k b)) (hb:b≠0) :
  SStep P ⟨dst,.binOp .quo t x y yt,ty,pos,af,gd⟩ e m [] (.dat true (.int k (k.wrap (a.tdiv b)))) []:=zeC h1 h2 (fun w=>by simp[binOp,Op.intDiv,hb]) (fun _ _=>zbB)
theorem zcw {n1 n2:Bool} {k:IntKind} {a b:Int} (h1:e x = .dat n1 (.int k a)) (h2:e y = .dat n2 (.int k b)) (hb:b≠0) :
  SStep P ⟨dst,.binOp .rem t x y yt,ty,pos,af,gd⟩ e m [] (.dat true (.int k (a.tmod b))) []:=zeC h1 h2 (fun w=>by simp[binOp,Op.intDiv,hb]) (fun _ _=>zbB)
theorem zsl {n1 n2:Bool} {k:IntKind} {a b:Int} (h1:e x = .dat n1 (.int k a)) (h2:e y = .dat n2 (.int k b)) :
  SStep P ⟨dst,.binOp .and t x y yt,ty,pos,af,gd⟩ e m [] (.dat true (.int k (k.andI a b))) []:=zeC h1 h2 (fun w=>by simp[binOp,Op.intBits,IntKind.andI]) (fun _ _=>zbB)
theorem S_or {n1 n2:Bool} {k:IntKind} {a b:Int} (h1:e x = .dat n1 (.int k a)) (h2:e y = .dat n2 (.int k b)) :
  SStep P ⟨dst,.binOp .or t x y yt,ty,pos,af,gd⟩ e m [] (.dat true (.int k (k.orI a b))) []:=zeC h1 h2 (fun w=>by simp[binOp,Op.intBits,IntKind.orI]) (fun _ _=>zbB)
theorem zhK {n1 n2:Bool} {k:IntKind} {a b:Int} (h1:e x = .dat n1 (.int k a)) (h2:e y = .dat n2 (.int k b)) :
  SStep P ⟨dst,.binOp .xor t x y yt,ty,pos,af,gd⟩ e m [] (.dat true (.int k (k.xorI a b))) []:=zeC h1 h2 (fun w=>by simp[binOp,Op.intBits,IntKind.xorI]) (fun _ _=>zbB)
theorem zqu {n1 n2:Bool} {k:IntKind} {a b:Int} (h1:e x = .dat n1 (.int k a)) (h2:e y = .dat n2 (.int k b)) :
  SStep P ⟨dst,.binOp .andNot t x y yt,ty,pos,af,gd⟩ e m [] (.dat true (.int k (k.andNotI a b))) []:=zeC h1 h2 (fun w=>by simp[binOp,Op.intBits,IntKind.andNotI]) (fun _ _=>zbB)
theorem zdp {n1 n2:Bool} {k:IntKind} {a b:Int} (h1:e x = .dat n1 (.int k a)) (h2:e y = .dat n2 (.int k b)) :
  SStep P ⟨dst,.binOp .eql t x y yt,ty,pos,af,gd⟩ e m [] (.dat true (.bool (decide (a=b)))) []:=zeC h1 h2 (fun w=>by simp[binOp,Op.intCmp];rfl) (fun _ _=>zaY)
theorem za1 {n1 n2:Bool} {k:IntKind} {a b:Int} (h1:e x = .dat n1 (.int k a)) (h2:e y = .dat n2 (.int k b)) :
  SStep P ⟨dst,.binOp .neq t x y yt,ty,pos,af,gd⟩ e m [] (.dat true (.bool (decide (a≠b)))) []:=zeC h1 h2 (fun w=>by simp[binOp,Op.intCmp];rfl) (fun _ _=>zaY)
theorem zam {n1 n2:Bool} {k:IntKind} {a b:Int} (h1:e x = .dat n1 (.int k a)) (h2:e y = .dat n2 (.int k b)) :
  SStep P ⟨dst,.binOp .lss t x y yt,ty,pos,af,gd⟩ e m [] (.dat true (.bool (decide (a<b)))) []:=zeC h1 h2 (fun w=>by simp[binOp,Op.intCmp]) (fun _ _=>zaY)
theorem zsm {n1 n2:Bool} {k:IntKind} {a b:Int} (h1:e x = .dat n1 (.int k a)) (h2:e y = .dat n2 (.int k b)) :
  SStep P ⟨dst,.binOp .leq t x y yt,ty,pos,af,gd⟩ e m [] (.dat true (.bool (decide (a≤b)))) []:=zeC h1 h2 (fun w=>by simp[binOp,Op.intCmp]) (fun _ _=>zaY)
theorem zbr {n1 n2:Bool} {k:IntKind} {a b:Int} (h1:e x = .dat n1 (.int k a)) (h2:e y = .dat n2 (.int k b)) :
  SStep P ⟨dst,.binOp .gtr t x y yt,ty,pos,af,gd⟩ e m [] (.dat true (.bool (decide (b<a)))) []:=zeC h1 h2 (fun w=>by simp[binOp,Op.intCmp]) (fun _ _=>zaY)
theorem zm5 {n1 n2:Bool} {k:IntKind} {a b:Int} (h1:e x = .dat n1 (.int k a)) (h2:e y = .dat n2 (.int k b)) :
  SStep P ⟨dst,.binOp .geq t x y yt,ty,pos,af,gd⟩ e m [] (.dat true (.bool (decide (b≤a)))) []:=zeC h1 h2 (fun w=>by simp[binOp,Op.intCmp]) (fun _ _=>zaY)
theorem S_sh {op:BinOp} {n1 n2:Bool} {k k':IntKind} {a b:Int} {r:Value} {R:D} (h1:e x = .dat n1 (.int k a)) (h2:e y = .dat n2 (.int k' b))
  (hr:∀ w,(binOp op t (.int k a) (.int k' b)).run P w = .ok r w) (hR:∀ C m,RdD C m R r) :
  SStep P ⟨dst,.binOp op t x y yt,ty,pos,af,gd⟩ e m [] R [] :=
 .pure fun C m' ac _ _ hx=>by
  have g1:=hx x (by simp[Op.operands]);rw[h1]at g1
  have g2:=hx y (by simp[Op.operands]);rw[h2]at g2
  refine⟨r,?_,hR _ _⟩
  simp only[execOp,zbq g1,zbq g2]
  cases op<;>simp[eqGuard,hr]
theorem ziH {n1 n2:Bool} {k k':IntKind} {a b:Int} (h1:e x = .dat n1 (.int k a)) (h2:e y = .dat n2 (.int k' b)) (hb:0≤b) :
  SStep P ⟨dst,.binOp .shl t x y yt,ty,pos,af,gd⟩ e m [] (.dat true (.int k (k.shlI a b))) [] :=
 S_sh h1 h2 (fun w=>by simp[binOp,Op.shift,Int.not_lt.2 hb,IntKind.shlI]) (fun _ _=>zbB)
theorem zeD {n1 n2:Bool} {k k':IntKind} {a b:Int} (h1:e x = .dat n1 (.int k a)) (h2:e y = .dat n2 (.int k' b)) (hb:0≤b) :
  SStep P ⟨dst,.binOp .shr t x y yt,ty,pos,af,gd⟩ e m [] (.dat true (.int k (k.shrI a b))) [] :=
 S_sh h1 h2 (fun w=>by simp[binOp,Op.shift,Int.not_lt.2 hb,IntKind.shrI]) (fun _ _=>zbB)
theorem zhY (w:World) {a b:Bool} (ht:P.underlying t=some .bool):(Op.equal t (.bool a) (.bool b)).run P w = .ok (a == b) w:=by
 have h:∀ d:Nat,(Op.equalIn (d+1) t (.bool a) (.bool b)).run P w = .ok (a == b) w:=fun d=>by
  simp[Op.equalIn,underlying,program,Sem.run,ht]
 exact h 9999
theorem zhL {a b:Bool}:binOp .eql t (.bool a) (.bool b)=(do pure (.bool (←Op.equal t (.bool a) (.bool b)))):=by rfl
theorem zhM {a b:Bool}:binOp .neq t (.bool a) (.bool b)=(do pure (.bool (!(←Op.equal t (.bool a) (.bool b))))):=by rfl
theorem ztx {n1 n2:Bool} {a b:Bool} (ht:P.underlying t=some .bool) (h1:e x = .dat n1 (.bool a)) (h2:e y = .dat n2 (.bool b)) :
  SStep P ⟨dst,.binOp .eql t x y yt,ty,pos,af,gd⟩ e m [] (.dat true (.bool (a == b))) [] :=
 .pure fun C m' ac _ _ hx=>by
  have g1:=hx x (by simp[Op.operands]);rw[h1]at g1
  have g2:=hx y (by simp[Op.operands]);rw[h2]at g2
  refine⟨.bool (a == b),?_,zaY⟩
  simp only[execOp,za4 g1,za4 g2,eqGuard,zhL]
  simp[zhY,ht]
theorem zty {n1 n2:Bool} {a b:Bool} (ht:P.underlying t=some .bool) (h1:e x = .dat n1 (.bool a)) (h2:e y = .dat n2 (.bool b)) :
  SStep P ⟨dst,.binOp .neq t x y yt,ty,pos,af,gd⟩ e m [] (.dat true (.bool (a != b))) [] :=
 .pure fun C m' ac _ _ hx=>by
  have g1:=hx x (by simp[Op.operands]);rw[h1]at g1
  have g2:=hx y (by simp[Op.operands]);rw[h2]at g2
  refine⟨.bool (a != b),?_,zaY⟩
  simp only[execOp,za4 g1,za4 g2,eqGuard,zhM]
  simp[zhY,ht,bne]
theorem zml {n1 n2:Bool} {a b:List UInt8} (h1:e x = .dat n1 (.str a)) (h2:e y = .dat n2 (.str b)) :
  SStep P ⟨dst,.binOp .eql t x y yt,ty,pos,af,gd⟩ e m [] (.dat true (.bool (decide (a=b)))) [] :=
 .pure fun C m' ac _ _ hx=>by
  have g1:=hx x (by simp[Op.operands]);rw[h1]at g1
  have g2:=hx y (by simp[Op.operands]);rw[h2]at g2
  refine⟨.bool (decide (a=b)),?_,zaY⟩
  simp[execOp,ze1 g1,ze1 g2,eqGuard,binOp,Op.stringOp,ByteArray.toList_mk]
  by_cases hab:a=b<;>simp[hab]
theorem zr5 {n1 n2:Bool} {a b:List UInt8} (h1:e x = .dat n1 (.str a)) (h2:e y = .dat n2 (.str b)) :
  SStep P ⟨dst,.binOp .neq t x y yt,ty,pos,af,gd⟩ e m [] (.dat true (.bool (decide (a≠b)))) [] :=
 .pure fun C m' ac _ _ hx=>by
  have g1:=hx x (by simp[Op.operands]);rw[h1]at g1
  have g2:=hx y (by simp[Op.operands]);rw[h2]at g2
  refine⟨.bool (decide (a≠b)),?_,zaY⟩
  simp[execOp,ze1 g1,ze1 g2,eqGuard,binOp,Op.stringOp,ByteArray.toList_mk]
  by_cases hab:a=b<;>simp[hab]
theorem zlf {n:Bool} {k k':IntKind} {s:TypeId} {sd:TypeDesc} {a:Int} (hs:P.underlying s=some sd) (ht:P.underlying t=some (.int k')) (h:e x = .dat n (.int k a)) :
  SStep P ⟨dst,.convert s t x,ty,pos,af,gd⟩ e m [] (.dat true (.int k' (k'.wrap a))) [] :=
 .pure fun C m' ac _ _ hx=>by
  have g1:=hx x (by simp[Op.operands]);rw[h]at g1
  refine⟨.int k' (k'.wrap a),?_,zbB⟩
  simp[execOp,zbq g1,convert,underlying,program,Sem.run,hs,ht,Conv.intToInt]
theorem ziI {n:Bool} {cs:List V} (h:e x = .dat n (.rp cs)):SStep P ⟨dst,.nilCheck x,ty,pos,af,gd⟩ e m [] (.dat n (.rp cs)) [] :=
 .pure fun C m' ac _ _ hx=>by
  have g1:=hx x (by simp[Op.operands]);rw[h]at g1
  refine⟨ac.eval x,?_,g1⟩
  generalize hv:ac.eval x=v at g1
  cases g1
  simp[execOp,hv]
theorem ziJ {n:Bool} {f:FuncId} {cs:List V} (h:e x = .dat n (.fn f cs)):SStep P ⟨dst,.nilCheck x,ty,pos,af,gd⟩ e m [] (.dat n (.fn f cs)) [] :=
 .pure fun C m' ac _ _ hx=>by
  have g1:=hx x (by simp[Op.operands]);rw[h]at g1
  refine⟨ac.eval x,?_,g1⟩
  generalize hv:ac.eval x=v at g1
  cases g1
  simp[execOp,hv]
theorem zhN {g off:Nat} (h:e x = .ptr g off):SStep P ⟨dst,.nilCheck x,ty,pos,af,gd⟩ e m [] (.ptr g off) [] :=
 .pure fun C m' ac _ _ hx=>by
  have g1:=hx x (by simp[Op.operands]);rw[h]at g1
  refine⟨ac.eval x,?_,g1⟩
  obtain⟨_,_,_,b,_,_,hv⟩:=g1
  simp[execOp,hv]
theorem zn9 {n:Bool} {cs:List V} {i:Nat} {d:V} (h:e x = .dat n (.tuple cs)) (hi:cs[i]? = some d) :
  SStep P ⟨dst,.extract x i,ty,pos,af,gd⟩ e m [] (.dat n d) [] :=
 .pure fun C m' ac _ _ hx=>by
  have g1:=hx x (by simp[Op.operands]);rw[h]at g1
  generalize hv:ac.eval x=v at g1
  cases g1 with
  | tuple _ vs hl hr =>
   have hlt:i<vs.size:=by
    have:=(List.getElem?_eq_some_iff.1 hi).1
    omega
   have hg:vs[i]? = some vs[i]:=Array.getElem?_eq_getElem hlt
   exact⟨vs[i],by simp[execOp,hv,Instr.extract,hg],hr i d _ hi hg⟩
end
end Go.Proofs.YtcdhlofhhcgohaaGreat
