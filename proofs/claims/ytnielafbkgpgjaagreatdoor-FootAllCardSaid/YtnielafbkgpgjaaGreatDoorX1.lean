/- AWP, text 1: values as trees, how they lie in memory, the abstract store, and what may change. -/
import Derived.Calls
import Derived.Orders
import Derived.Below
import Derived.Laws.AppendOwn
import Derived.KernelRfl
import Derived.Laws.Rows
import Derived.Laws.Entries
import Derived.Laws.Cells
import Derived.Deep.MidRow
import Derived.Laws.ComplexArith
import Derived.ChangeKeysEq
set_option linter.all false
set_option maxRecDepth 100000
set_option maxHeartbeats 8000000
namespace Go.Awp
open Go
abbrev Id:=Nat × Nat
inductive Loc where
 | unborn
 | cells (b:Nat)
 | vec (hv:Value) (ver:Nat)
def hblk:Value->Option Nat
 | .slice (some a) _ c=>if c=0 then none else some a.block
 | _=>none
def Loc.block:Loc->Option Nat
 | .unborn=>none
 | .cells b=>some b
 | .vec hv _=>hblk hv
def Owns (w:World) (t:TypeId) (s:Nat) (hv:Value) (n:Nat) (xs:List Value):Prop:=
 xs.length=n*s/\
 ((∃ a,hv = .slice a 0 0/\n=0)∨
  ∃ g cap cur,0<cap/\hv = .slice (some ⟨g,0,none⟩) n cap/\w.heap[g]? = some (.cells cur t (0,0))/\n<=cap/\cap<=maxLen/\cur.size=cap*s/\cur.toList.take (n*s)=xs)
theorem Owns.lt {w:World} {t s n:Nat} {hv:Value} {xs:List Value} (h:Owns w t s hv n xs) {b:Nat} (hb:hblk hv=some b):b<w.heap.size:=by
 rcases h.2 with⟨a,rfl,_⟩|⟨g,cap,cur,hc,rfl,hg,_⟩
 ·cases a<;>simp[hblk] at hb
 ·simp[hblk] at hb;obtain⟨_,rfl⟩:=hb;exact (Array.getElem?_eq_some_iff.1 hg).1
structure Amb where
 I:Nat->Nat->Prop
 ι:Id->Loc
 w:World
def Loc.Le:Loc->Loc->Prop
 | .unborn,_=>True
 | .cells b,l=>l = .cells b
 | .vec hv n,l=>∃ hv' n',l = .vec hv' n'/\n<=n'/\(n=n'->hv' = hv)
theorem Loc.Le.refl (l:Loc):l.Le l:=by
 cases l with
 | unborn=>trivial
 | cells b=>rfl
 | vec hv n=>exact⟨hv,n,rfl,Nat.le_refl _,fun _=>rfl⟩
theorem Loc.Le.trans {a b c:Loc} (h:a.Le b) (k:b.Le c):a.Le c:=by
 cases a with
 | unborn=>trivial
 | cells x=>cases h;exact k
 | vec hv n=>
   obtain⟨hv',n',rfl,hn,he⟩:=h;obtain⟨hv'',n'',rfl,hn',he'⟩:=k;refine⟨hv'',n'',rfl,Nat.le_trans hn hn',fun e=>?_⟩;have e1:n=n':=by omega
   have e2:n' = n'':=by omega
   rw[he' e2,he e1]
structure Amb.Le (E E':Amb):Prop where
 imm:∀ b o,E.I b o->E'.I b o
 cell:∀ b o,E.I b o->E'.w.cell? ⟨b,o,none⟩=E.w.cell? ⟨b,o,none⟩
 loc:∀ id,(E.ι id).Le (E'.ι id)
 map:∀ b es clk,E.I b 0->E.w.heap[b]? = some (.map es clk)->E'.w.heap[b]? = some (.map es clk)
theorem Amb.Le.refl (E:Amb):E.Le E:=⟨fun _ _ h=>h,fun _ _ _=>rfl,fun _=>Loc.Le.refl _,fun _ _ _ _ h=>h⟩
theorem Amb.Le.trans {A B D:Amb} (h:A.Le B) (k:B.Le D):A.Le D:=
 ⟨fun b o i=>k.imm b o (h.imm b o i),fun b o i=>(k.cell b o (h.imm b o i)).trans (h.cell b o i),fun id=>(h.loc id).trans (k.loc id),fun b es c i e=>k.map b es c (h.imm b 0 i) (h.map b es c i e)⟩
inductive V where
 | any
 | bool (b:Bool)
 | int (k:IntKind) (n:Int)
 | float (k:FloatKind) (bits:Nat)
 | cplx (k:FloatKind) (re im:Nat)
 | str (s:ByteArray)
 | nilp
 | ptr (id:Id) (off:Nat)
 | eptr (id:Id) (ver s i off:Nat)
 | rptr (v:V)
 | snil
 | slice (es:List V)
 | vec (id:Id) (ver:Nat)
 | vsub (id:Id) (ver s lo len:Nat)
 | func (fn:Fn) (first cap:List V)
 | nilf
 | map (id:Id)
 | mapv (ks vs:List V)
 | mnil
 | iface (t:TypeId) (v:V)
 | nili
 | agg (cs:List V)
 | tup (vs:List V)
 deriving Inhabited
def V.cells:V->List V
 | .agg cs=>cs
 | v=>[v]
def V.scalar:V->Bool
 | .any|.agg _|.tup _=>false
 | _=>true
def V.wf:V->Bool
 | .any|.tup _=>false
 | _=>true
def V.ok (v:V):Prop:=∀ c∈v.cells,c.scalar=true
mutual
inductive Rep (E:Amb):V->Value->Prop
 | any (cv:Value):Rep E .any cv
 | bool (b:Bool):Rep E (.bool b) (.bool b)
 | int (k:IntKind) (n:Int):Rep E (.int k n) (.int k n)
 | float (k:FloatKind) (n:Nat):Rep E (.float k n) (.float k n)
 | cplx (k:FloatKind) (n m:Nat):Rep E (.cplx k n m) (.complex k n m)
 | str (s:ByteArray):Rep E (.str s) (.string s)
 | nilp:Rep E .nilp (.pointer none)
 | ptr {id:Id} {b off:Nat} (h:E.ι id = .cells b):Rep E (.ptr id off) (.pointer (some ⟨b,off,none⟩))
 | eptr {id:Id} {ver ver' s i off b:Nat} {hv:Value} (h:E.ι id = .vec hv ver') (hle:ver<=ver')
    (hc:ver=ver'->∃ n c,hv = .slice (some ⟨b,0,none⟩) n c):Rep E (.eptr id ver s i off) (.pointer (some ⟨b,i*s+off,none⟩))
 | rptr {v:V} {cvs:List Value} {b o:Nat} (hl:RepL E v.cells cvs) (hw:v.ok)
    (hc:∀ j u,cvs[j]? = some u->E.w.cell? ⟨b,o+j,none⟩=some u/\E.I b (o+j)):Rep E (.rptr v) (.pointer (some ⟨b,o,none⟩))
 | snil (a:Option Addr):Rep E .snil (.slice a 0 0)
 | slice0 (a:Option Addr) (c:Nat):Rep E (.slice []) (.slice a 0 c)
 | slice {es:List V} {cvs:List Value} {b o cap s:Nat} (hl:RepL E (es.flatMap V.cells) cvs)
    (hc:∀ j u,cvs[j]? = some u->E.w.cell? ⟨b,o+j,none⟩=some u/\E.I b (o+j))
    (hu:∀ e∈es,e.cells.length=s/\e.ok) (hcap:es.length<=cap):Rep E (.slice es) (.slice (some ⟨b,o,none⟩) es.length cap)
 | vec {id:Id} {ver ver':Nat} {hv:Value} {a:Option Addr} {n c:Nat} (h:E.ι id = .vec hv ver') (hle:ver<=ver')
    (hc:ver=ver'->hv = .slice a n c):Rep E (.vec id ver) (.slice a n c)
 | vsub {id:Id} {ver ver' s lo len:Nat} {hv:Value} {a:Option Addr} {c:Nat} (h:E.ι id = .vec hv ver') (hle:ver<=ver')
    (hc:ver=ver'->∃ b n c0,hv = .slice b n c0/\lo+len<=n/\n<=c0/\c=c0 - lo/\(lo<c0->a=b.map (·.add (lo*s)))):Rep E (.vsub id ver s lo len) (.slice a len c)
 | func {fn:Fn} {first cap:List V} {fs cs:List Value} (h1:RepL E first fs) (h2:RepL E cap cs):Rep E (.func fn first cap) (.func fn fs.toArray cs.toArray)
 | nilf:Rep E .nilf .nilFunc
 | map {id:Id} {b:Nat} (h:E.ι id = .cells b):Rep E (.map id) (.map (some b))
 | mapv {ks vs:List V} {b clk:Nat} {es:Array MapEntry} (h1:RepL E ks (es.toList.map (·.key))) (h2:RepL E vs (es.toList.map (·.val)))
    (hb:E.w.heap[b]? = some (.map es clk)) (hi:E.I b 0):Rep E (.mapv ks vs) (.map (some b))
 | mnil:Rep E .mnil (.map none)
 | iface {t:TypeId} {v:V} {cv:Value} (h:Rep E v cv):Rep E (.iface t v) (.iface t cv)
 | nili:Rep E .nili .nilIface
 | agg {cs:List V} {cvs:List Value} (h:RepL E cs cvs) (hs:∀ c∈cs,c.scalar=true):Rep E (.agg cs) (.agg cvs.toArray)
 | tup {vs:List V} {cvs:List Value} (h:RepL E vs cvs):Rep E (.tup vs) (.tuple cvs.toArray)
inductive RepL (E:Amb):List V->List Value->Prop
 | nil:RepL E [] []
 | cons {v:V} {cv:Value} {vs:List V} {cvs:List Value} (h:Rep E v cv) (t:RepL E vs cvs):RepL E (v::vs) (cv::cvs)
end
section
variable {E E':Amb}
theorem Amb.Le.cells (h:E.Le E') {b o:Nat} {cvs:List Value}
 (hc:∀ j u,cvs[j]? = some u->E.w.cell? ⟨b,o+j,none⟩=some u/\E.I b (o+j)):
 ∀ j u,cvs[j]? = some u->E'.w.cell? ⟨b,o+j,none⟩=some u/\E'.I b (o+j):=
 fun j u hj=>⟨(h.cell b _ (hc j u hj).2).trans (hc j u hj).1,h.imm _ _ (hc j u hj).2⟩
theorem Rep.mono (hE:E.Le E') {v:V} {cv:Value} (h:Rep E v cv):Rep E' v cv:=by
 induction h using Rep.rec (motive_2:=fun vs cvs _=>RepL E' vs cvs) with
 | any=>exact .any _
 | bool=>exact .bool _
 | int=>exact .int _ _
 | float=>exact .float _ _
 | cplx=>exact .cplx _ _ _
 | str=>exact .str _
 | nilp=>exact .nilp
 | @ptr id b off h=>have:=hE.loc id;rw[h] at this;exact .ptr this
 | @eptr id ver ver' s i off b hv h hle hc=>
   have:=hE.loc id;rw[h] at this;obtain⟨hv',n',e,hn,he⟩:=this;refine .eptr e (Nat.le_trans hle hn) fun ev=>?_;have e1:ver' = n':=by omega
   obtain⟨n,c,e2⟩:=hc (by omega);exact⟨n,c,by rw[he e1,e2]⟩
 | rptr hl hw hc ih=>exact .rptr ih hw (hE.cells hc)
 | snil=>exact .snil _
 | slice0=>exact .slice0 _ _
 | slice hl hc hu hcap ih=>exact .slice ih (hE.cells hc) hu hcap
 | @vec id ver ver' hv a n c h hle hc=>
   have:=hE.loc id;rw[h] at this;obtain⟨hv',n',e,hn,he⟩:=this;refine .vec e (Nat.le_trans hle hn) fun ev=>?_;have e1:ver' = n':=by omega
   rw[he e1,hc (by omega)]
 | @vsub id ver ver' s lo len hv a c h hle hc=>
   have:=hE.loc id;rw[h] at this;obtain⟨hv',n',e,hn,he⟩:=this;refine .vsub e (Nat.le_trans hle hn) fun ev=>?_;have e1:ver' = n':=by omega
   rw[he e1];exact hc (by omega)
 | func h1 h2 i1 i2=>exact .func i1 i2
 | nilf=>exact .nilf
 | @map id b h=>have:=hE.loc id;rw[h] at this;exact .map this
 | mapv h1 h2 hb hi i1 i2=>exact .mapv i1 i2 (hE.map _ _ _ hi hb) (hE.imm _ _ hi)
 | mnil=>exact .mnil
 | iface h ih=>exact .iface ih
 | nili=>exact .nili
 | agg h hs ih=>exact .agg ih hs
 | tup h ih=>exact .tup ih
 | nil=>exact .nil
 | cons h t i1 i2=>exact .cons i1 i2
theorem RepL.mono (hE:E.Le E') {vs:List V} {cvs:List Value} (h:RepL E vs cvs):RepL E' vs cvs:=by
 induction vs generalizing cvs with
 | nil=>cases h;exact .nil
 | cons v vs ih=>cases h with|cons h t=>exact .cons (h.mono hE) (ih t)
theorem RepL.length {vs:List V} {cvs:List Value} (h:RepL E vs cvs):cvs.length=vs.length:=by
 induction vs generalizing cvs with
 | nil=>cases h;rfl
 | cons v vs ih=>cases h with|cons h t=>simp[ih t]
theorem RepL.get {vs:List V} {cvs:List Value} (h:RepL E vs cvs) {i:Nat} {v:V} (hi:vs[i]? = some v):∃ cv,cvs[i]? = some cv/\Rep E v cv:=by
 induction vs generalizing cvs i with
 | nil=>simp at hi
 | cons x vs ih=>
   cases h with
   | cons h t=>
     cases i with
     | zero=>simp at hi;subst hi;exact⟨_,rfl,h⟩
     | succ i=>simp at hi;obtain⟨cv,e,r⟩:=ih t hi;exact⟨cv,by simpa using e,r⟩
theorem RepL.getV {vs:List V} {cvs:List Value} (h:RepL E vs cvs) {i:Nat} {cv:Value} (hi:cvs[i]? = some cv):∃ v,vs[i]? = some v/\Rep E v cv:=by
 induction vs generalizing cvs i with
 | nil=>cases h;simp at hi
 | cons x vs ih=>
   cases h with
   | cons h t=>
     cases i with
     | zero=>simp at hi;subst hi;exact⟨_,rfl,h⟩
     | succ i=>simp at hi;obtain⟨v,e,r⟩:=ih t hi;exact⟨v,by simpa using e,r⟩
theorem RepL.append {vs us:List V} {cvs dvs:List Value} (h:RepL E vs cvs) (k:RepL E us dvs):RepL E (vs++us) (cvs++dvs):=by
 induction vs generalizing cvs with
 | nil=>cases h;exact k
 | cons x vs ih=>cases h with|cons h t=>exact .cons h (ih t)
theorem RepL.take {vs:List V} {cvs:List Value} (h:RepL E vs cvs) (n:Nat):RepL E (vs.take n) (cvs.take n):=by
 induction vs generalizing cvs n with
 | nil=>cases h;simpa using RepL.nil
 | cons x vs ih=>
   cases h with
   | cons h t=>cases n with
     | zero=>exact .nil
     | succ n=>exact .cons h (ih t n)
theorem RepL.drop {vs:List V} {cvs:List Value} (h:RepL E vs cvs) (n:Nat):RepL E (vs.drop n) (cvs.drop n):=by
 induction vs generalizing cvs n with
 | nil=>cases h;simpa using RepL.nil
 | cons x vs ih=>
   cases h with
   | cons h t=>cases n with
     | zero=>exact .cons h t
     | succ n=>exact ih t n
theorem RepL.split {vs us:List V} {cvs:List Value} (h:RepL E (vs++us) cvs):∃ a b,cvs=a++b/\RepL E vs a/\RepL E us b:=by
 refine⟨cvs.take vs.length,cvs.drop vs.length,(List.take_append_drop _ _).symm,?_,?_⟩
 ·have:=h.take vs.length;simpa using this
 ·have:=h.drop vs.length;simpa using this
theorem RepL.set {vs:List V} {cvs:List Value} (h:RepL E vs cvs) (i:Nat) {v:V} {cv:Value} (hv:Rep E v cv):RepL E (vs.set i v) (cvs.set i cv):=by
 induction vs generalizing cvs i with
 | nil=>cases h;simpa using RepL.nil
 | cons x vs ih=>
   cases h with
   | cons h t=>cases i with
     | zero=>exact .cons hv t
     | succ i=>exact .cons h (ih t i)
theorem Rep.one {v:V} {cv:Value} (h:Rep E v cv) (hs:v.scalar=true):cv.oneCell' = true:=by
 cases h<;>first|rfl|simp[V.scalar] at hs
theorem Rep.cells {v:V} {cv:Value} (h:Rep E v cv) (hw:v.wf=true):RepL E v.cells cv.cells.toList/\v.ok:=by
 have h0:=h;cases h
 case any=>simp[V.wf] at hw
 case tup=>simp[V.wf] at hw
 case agg h hs=>exact⟨by simpa[Value.cells,V.cells] using h,hs⟩
 all_goals exact⟨.cons h0 .nil,by simp[V.ok,V.cells,V.scalar]⟩
theorem RepL.scalars {vs:List V} {cvs:List Value} (h:RepL E vs cvs) (hs:∀ c∈vs,c.scalar=true):∀ u∈cvs,u.oneCell' = true:=by
 intro u hu;obtain⟨i,hi⟩:=List.getElem?_of_mem hu;obtain⟨v,hv,hr⟩:=h.getV hi;exact hr.one (hs v (List.mem_of_getElem? hv))
end
inductive Blk where
 | cells (t:TypeId) (cs:List V)
 | vec (t:TypeId) (s:Nat) (es:List V) (ver:Nat) (wr:Bool)
 | map (ks vs:List V) (clk:Nat)
 deriving Inhabited
abbrev Qa:=List (Id × Blk)
abbrev Qa.keys (σ:Qa):List Id:=σ.map (·.1)
def Wd (E:Amb) (id:Id):Blk->Prop
 | .cells t cs=>∃ b c,E.ι id = .cells b/\E.w.heap[b]? = some (.cells c t (0,0))/\RepL E cs c.toList/\(∀ c∈cs,c.scalar=true)/\∀ o,¬ E.I b o
 | .vec t s es ver wr=>∃ hv xs,E.ι id = .vec hv ver/\Owns E.w t s hv es.length xs/\RepL E (es.flatMap V.cells) xs/\
    (∀ e∈es,e.cells.length=s/\e.ok)/\0<s/\∀ b,hblk hv=some b->∀ o,E.I b o->wr=false/\o<es.length*s
 | .map ks vs clk=>∃ b es,E.ι id = .cells b/\E.w.heap[b]? = some (.map es clk)/\RepL E ks (es.toList.map (·.key))/\RepL E vs (es.toList.map (·.val))/\∀ o,¬ E.I b o
structure Qk (E:Amb) (σ:Qa):Prop where
 blk:∀ id b,(id,b)∈σ->Wd E id b
 nodup:σ.keys.Nodup
 apart:∀ i j,i∈σ.keys->j∈σ.keys->i≠j->∀ b,(E.ι i).block=some b->(E.ι j).block≠some b
 imm:∀ b o,E.I b o->b<E.w.heap.size
 fin:∃ N,∀ id:Id,N<=id.1->E.ι id = .unborn
def Je (E:Amb) (σ:Qa) (b:Nat):Prop:=∃ id,id∈σ.keys/\(E.ι id).block=some b
structure Grow (E:Amb) (σ:Qa) (E':Amb) (σ':Qa):Prop where
 le:E.Le E'
 kept:∀ b,b<E.w.heap.size->¬ Je E σ b->E'.w.heap[b]? = E.w.heap[b]?
 inew:∀ b o,E'.I b o->E.I b o∨E.w.heap.size<=b∨Je E σ b
 loc:∀ id,id∉σ.keys->E.ι id≠.unborn->E'.ι id=E.ι id
 keys:∀ id,id∈σ'.keys->id∈σ.keys∨E.ι id = .unborn
 own:∀ b,Je E' σ' b->E.w.heap.size<=b∨Je E σ b
 os:E'.w.os=E.w.os
 tape:E'.w.tape=E.w.tape
 output:E'.w.output=E.w.output
 size:E.w.heap.size<=E'.w.heap.size
theorem Grow.refl (E:Amb) (σ:Qa):Grow E σ E σ:=
 ⟨Amb.Le.refl E,fun _ _ _=>rfl,fun _ _ h=>.inl h,fun _ _ _=>rfl,fun _ h=>.inl h,fun _ h=>.inr h,rfl,rfl,rfl,Nat.le_refl _⟩
theorem Grow.trans {A B D:Amb} {s t u:Qa} (h:Grow A s B t) (k:Grow B t D u):Grow A s D u where
 le:=h.le.trans k.le
 kept b hb ho:=by
  rw[k.kept b (Nat.lt_of_lt_of_le hb h.size) fun o=>(h.own b o).elim (by omega) ho,h.kept b hb ho]
 inew b o i:=by
  rcases k.inew b o i with i|i|i
  ·exact h.inew b o i
  ·exact .inr (.inl (Nat.le_trans h.size i))
  ·rcases h.own b i with i|i
   ·exact .inr (.inl i)
   ·exact .inr (.inr i)
 loc id hn hu:=by
  have e:=h.loc id hn hu;rw[k.loc id (fun hk=>(h.keys id hk).elim hn hu) (by rw[e];exact hu),e]
 keys id hi:=by
  rcases k.keys id hi with hi|hi
  ·exact h.keys id hi
  ·by_cases hu:A.ι id = .unborn
   ·exact .inr hu
   ·by_cases hm:id∈s.keys
    ·exact .inl hm
    ·rw[h.loc id hm hu] at hi;exact .inr hi
 own b ho:=by
  rcases k.own b ho with i|i
  ·exact .inl (Nat.le_trans h.size i)
  ·exact h.own b i
 os:=k.os.trans h.os
 tape:=k.tape.trans h.tape
 output:=k.output.trans h.output
 size:=Nat.le_trans h.size k.size
theorem Grow.drop {A B:Amb} {s t t':Qa} (h:Grow A s B t) (ht:∀ id,id∈t'.keys->id∈t.keys):Grow A s B t':=
 {h with keys:=fun id hi=>h.keys id (ht id hi),own:=fun b ⟨id,hi,hb⟩=>h.own b ⟨id,ht id hi,hb⟩ }
theorem Wd.size {E:Amb} {id:Id} {k:Blk} (h:Wd E id k) {b:Nat} (hb:(E.ι id).block=some b):b<E.w.heap.size:=by
 cases k with
 | cells t cs=>
   obtain⟨b',c,e,hh,_⟩:=h;rw[e] at hb;simp[Loc.block] at hb;subst hb;exact (Array.getElem?_eq_some_iff.1 hh).1
 | vec t s es ver wr=>
   obtain⟨hv,xs,e,ho,_⟩:=h;rw[e] at hb;exact ho.lt hb
 | map ks vs clk=>
   obtain⟨b',es,e,hh,_⟩:=h;rw[e] at hb;simp[Loc.block] at hb;subst hb;exact (Array.getElem?_eq_some_iff.1 hh).1
theorem Wd.nomap {E:Amb} {id:Id} {k:Blk} (h:Wd E id k) {b:Nat} (hb:(E.ι id).block=some b) (es:Array MapEntry) (clk:Nat) (hi:E.I b 0):E.w.heap[b]?≠some (.map es clk):=by
 cases k with
 | cells t cs=>
   obtain⟨b',c,e,hh,_⟩:=h;rw[e] at hb;simp[Loc.block] at hb;subst hb;rw[hh];simp
 | vec t s es ver wr=>
   obtain⟨hv,xs,e,ho,_⟩:=h;rw[e] at hb;rcases ho.2 with⟨a,rfl,_⟩|⟨g,cap,cur,hc,rfl,hg,_⟩
   ·cases a<;>simp[Loc.block,hblk] at hb
   ·simp[Loc.block,hblk] at hb;obtain⟨_,rfl⟩:=hb;rw[hg];simp
 | map ks vs clk=>
   obtain⟨b',es,e,hh,_,_,hn⟩:=h;rw[e] at hb;simp[Loc.block] at hb;subst hb;exact absurd hi (hn 0)
theorem Wd.born {E:Amb} {id:Id} {k:Blk} (h:Wd E id k):E.ι id≠.unborn:=by
 cases k with
 | cells t cs=>obtain⟨b',c,e,_⟩:=h;simp[e]
 | vec t s es ver wr=>obtain⟨hv,xs,e,_⟩:=h;simp[e]
 | map ks vs clk=>obtain⟨b',es,e,_⟩:=h;simp[e]
theorem Qk.mem {E:Amb} {σ:Qa} (h:Qk E σ) {id:Id} (hi:id∈σ.keys):∃ k,(id,k)∈σ/\Wd E id k:=by
 obtain⟨⟨i,k⟩,hk,rfl⟩:=List.mem_map.1 hi;exact⟨k,hk,h.blk _ _ hk⟩
theorem Qk.ownedLt {E:Amb} {σ:Qa} (h:Qk E σ) {b:Nat} (ho:Je E σ b):b<E.w.heap.size:=by
 obtain⟨id,hi,hb⟩:=ho;obtain⟨k,_,hk⟩:=h.mem hi;exact hk.size hb
theorem Wd.keep {E E':Amb} {id:Id} {k:Blk} (h:Wd E id k) (le:E.Le E') (hι:E'.ι id=E.ι id)
 (hh:∀ b,(E.ι id).block=some b->E'.w.heap[b]? = E.w.heap[b]?) (hI:∀ b,(E.ι id).block=some b->∀ o,E'.I b o->E.I b o):Wd E' id k:=by
 cases k with
 | cells t cs=>
   obtain⟨b,c,e,hb,hr,hs,hi⟩:=h;exact⟨b,c,by rw[hι,e],by rw[hh b (by rw[e];rfl),hb],hr.mono le,hs,fun o i=>hi o (hI b (by rw[e];rfl) o i)⟩
 | vec t s es ver wr=>
   obtain⟨hv,xs,e,ho,hr,hs,h0,hi⟩:=h;refine⟨hv,xs,by rw[hι,e],⟨ho.1,?_⟩,hr.mono le,hs,h0,fun b hb o i=>hi b hb o (hI b (by rw[e];exact hb) o i)⟩;rcases ho.2 with hn|⟨g,cap,cur,hb,rfl,hg,rest⟩
   ·exact .inl hn
   ·exact .inr ⟨g,cap,cur,hb,rfl,by rw[hh g (by rw[e];simp[Loc.block,hblk];omega)];exact hg,rest⟩
 | map ks vs clk=>
   obtain⟨b,es,e,hb,h1,h2,hi⟩:=h;exact⟨b,es,by rw[hι,e],by rw[hh b (by rw[e];rfl),hb],h1.mono le,h2.mono le,fun o i=>hi o (hI b (by rw[e];rfl) o i)⟩
theorem Qk.part {E:Amb} {σ s:Qa} (h:Qk E σ) (hs:∀ x,x∈s->x∈σ) (hn:s.keys.Nodup):Qk E s:=by
 have hk:∀ id,id∈s.keys->id∈σ.keys:=fun id hi=>by
  obtain⟨x,hx,rfl⟩:=List.mem_map.1 hi;exact List.mem_map.2 ⟨x,hs x hx,rfl⟩
 exact⟨fun id b hb=>h.blk id b (hs _ hb),hn,fun i j hi hj=>h.apart i j (hk i hi) (hk j hj),h.imm,h.fin⟩
theorem frame {E E':Amb} {σ s s' r:Qa} (h:Qk E σ) (hs:∀ x,x∈s->x∈σ) (hr:∀ x,x∈r->x∈σ) (hd:∀ id,id∈r.keys->id∉s.keys) (hrn:r.keys.Nodup)
 (h':Qk E' s') (g:Grow E s E' s'):Qk E' (s' ++ r)/\Grow E σ E' (s' ++ r):=by
 have key:∀ {t:Qa},(∀ x,x∈t->x∈σ)->∀ id,id∈t.keys->id∈σ.keys:=fun ht id hi=>by
  obtain⟨x,hx,rfl⟩:=List.mem_map.1 hi;exact List.mem_map.2 ⟨x,ht x hx,rfl⟩
 have rb:∀ id,id∈r.keys->∃ k,Wd E id k:=fun id hi=>by obtain⟨k,_,hk⟩:=h.mem (key hr id hi);exact⟨k,hk⟩
 have rι:∀ id,id∈r.keys->E'.ι id=E.ι id:=fun id hi=>by
  obtain⟨k,hk⟩:=rb id hi;exact g.loc id (hd id hi) hk.born
 have rown:∀ id,id∈r.keys->∀ b,(E.ι id).block=some b->¬ Je E s b:=fun id hi b hb ⟨j,hj,hjb⟩=>
  h.apart id j (key hr id hi) (key hs j hj) (fun e=>hd id hi (e▸hj)) b hb hjb
 have rlt:∀ id,id∈r.keys->∀ b,(E.ι id).block=some b->b<E.w.heap.size:=fun id hi b hb=>by
  obtain⟨k,hk⟩:=rb id hi;exact hk.size hb
 have disj:∀ id,id∈r.keys->∀ b,(E.ι id).block=some b->¬ Je E' s' b:=fun id hi b hb ho=>by
  rcases g.own b ho with i|i
  ·have:=rlt id hi b hb;omega
  ·exact rown id hi b hb i
 constructor
 ·refine⟨fun id k hk=>?_,?_,?_,h'.imm,h'.fin⟩
  ·rcases List.mem_append.1 hk with hk|hk
   ·exact h'.blk id k hk
   ·have hi:id∈r.keys:=List.mem_map.2 ⟨_,hk,rfl⟩;refine (h.blk id k (hr _ hk)).keep g.le (rι id hi) (fun b hb=>g.kept b (rlt id hi b hb) (rown id hi b hb)) fun b hb o i=>?_;rcases g.inew b o i with i|i|i
    ·exact i
    ·have:=rlt id hi b hb;omega
    ·exact absurd i (rown id hi b hb)
  ·rw[show (s' ++ r).keys=s'.keys++r.keys from List.map_append];refine List.nodup_append.2 ⟨h'.nodup,hrn,fun i hi j hj e=>?_⟩;subst e;rcases g.keys i hi with k|k
   ·exact hd i hj k
   ·obtain⟨kk,hk⟩:=rb i hj;exact hk.born k
  ·intro i j hi hj hne b hb hjb;rw[show (s' ++ r).keys=s'.keys++r.keys from List.map_append] at hi hj;rcases List.mem_append.1 hi with hi|hi<;>rcases List.mem_append.1 hj with hj|hj
   ·exact h'.apart i j hi hj hne b hb hjb
   ·rw[rι j hj] at hjb;exact disj j hj b hjb ⟨i,hi,hb⟩
   ·rw[rι i hi] at hb;exact disj i hi b hb ⟨j,hj,hjb⟩
   ·rw[rι i hi] at hb;rw[rι j hj] at hjb;exact h.apart i j (key hr i hi) (key hr j hj) hne b hb hjb
 ·have up:∀ b,Je E s b->Je E σ b:=fun b ⟨id,hi,hb⟩=>⟨id,key hs id hi,hb⟩
  refine⟨g.le,fun b hb ho=>g.kept b hb fun o=>ho (up b o),fun b o i=>?_,fun id hn=>g.loc id fun hk=>hn (key hs id hk),fun id hi=>?_,fun b ho=>?_,g.os,g.tape,g.output,g.size⟩
  ·rcases g.inew b o i with i|i|i
   ·exact .inl i
   ·exact .inr (.inl i)
   ·exact .inr (.inr (up b i))
  ·rw[show (s' ++ r).keys=s'.keys++r.keys from List.map_append] at hi;rcases List.mem_append.1 hi with hi|hi
   ·exact (g.keys id hi).imp (key hs id) (fun h=>h)
   ·exact .inl (key hr id hi)
  ·obtain⟨id,hi,hb⟩:=ho;rw[show (s' ++ r).keys=s'.keys++r.keys from List.map_append] at hi;rcases List.mem_append.1 hi with hi|hi
   ·exact (g.own b ⟨id,hi,hb⟩).imp (fun h=>h) (up b)
   ·rw[rι id hi] at hb;exact .inr ⟨id,key hr id hi,hb⟩
def Qx (P:Program) (t:TypeId):Option Nat:=(P.info? t).map (·.size)
def aggT (P:Program) (t:TypeId):Option Bool:=(P.underlying t).map TypeDesc.isRow
def fldT (P:Program) (t:TypeId) (f:Nat):Option (Nat × TypeId):=
 (P.underlying t).bind fun|.struct fs=>(fs[f]?).map fun x=>(x.offset,x.type)|_=>none
def Wt (P:Program) (t:TypeId):Option TypeId:=(P.underlying t).bind fun|.slice e=>some e|_=>none
def arrT (P:Program) (t:TypeId):Option (Nat × TypeId):=(P.underlying t).bind fun|.array n e=>some (n,e)|_=>none
inductive Sort'|bool|int (k:IntKind)|float (k:FloatKind)|cplx (k:FloatKind)|str|ptr|slice|map|func|struct|array|iface|tuple|other
 deriving DecidableEq
def Qo (P:Program) (t:TypeId):Sort':=
 match P.underlying t with
 | some .bool=>.bool|some (.int k)=>.int k|some (.float k)=>.float k|some (.complex k)=>.cplx k|some .string=>.str
 | some (.pointer _)=>.ptr|some (.slice _)=>.slice|some (.map _ _)=>.map|some (.func ..)=>.func|some (.struct _)=>.struct
 | some (.array _ _)=>.array|some (.interface _)=>.iface|some (.tuple _)=>.tuple|_=>.other
section
variable {P:Program}
theorem Wk {t e:TypeId} (h:Wt P t=some e):P.underlying t=some (.slice e):=by
 unfold Wt at h;cases hu:P.underlying t with
 | none=>simp[hu] at h
 | some d=>cases d<;>simp[hu] at h;subst h;rfl
theorem Jr {t e:TypeId} {n:Nat} (h:arrT P t=some (n,e)):P.underlying t=some (.array n e):=by
 unfold arrT at h;cases hu:P.underlying t with
 | none=>simp[hu] at h
 | some d=>cases d<;>simp[hu] at h;obtain⟨rfl,rfl⟩:=h;rfl
theorem uY {t f o u:Nat} (h:fldT P t f=some (o,u)):∃ fs x,P.underlying t=some (.struct fs)/\fs[f]? = some x/\x.offset=o/\x.type=u:=by
 unfold fldT at h;cases hu:P.underlying t with
 | none=>simp[hu] at h
 | some d=>
   cases d<;>simp[hu] at h;rename_i fs;obtain⟨x,hx,rfl,rfl⟩:=h;exact⟨fs,x,rfl,hx,rfl,rfl⟩
theorem QK {t n:Nat} (h:Qx P t=some n) (w:World):(sizeOf t).run P w = .ok n w:=by
 unfold Qx at h;cases hq:P.info? t with
 | none=>simp[hq] at h
 | some i=>simp[hq] at h;simp[sizeOf,typeInfo,hq,h]
theorem Vz {t:Nat} {b:Bool} (h:aggT P t=some b) (w:World):(isAgg t).run P w = .ok b w:=by
 unfold aggT at h;cases hu:P.underlying t with
 | none=>simp[hu] at h
 | some d=>
   simp[hu] at h;unfold isAgg;rw[Sem.run_bind,run_underlying hu w];cases d<;>simp_all
end
def Xh (P:Program) (t:TypeId) (cs:List V) (off:Nat):Option V:=
 match aggT P t,Qx P t with
 | some true,some n=>if off+n<=cs.length then some (.agg ((cs.drop off).take n)) else none
 | some false,some _=>cs[off]?
 | _,_=>none
def fitV (P:Program) (t:TypeId) (v:V):Bool:=
 match aggT P t,Qx P t with
 | some true,some n=>(match v with|.agg cs=>cs.length == n|_=>false)
 | some false,some n=>n == 1&&v.scalar
 | _,_=>false
def Reads (E:Amb) (b o:Nat) (cs:List V):Prop:=
 ∃ cvs,RepL E cs cvs/\(∀ c∈cs,c.scalar=true)/\∀ j u,cvs[j]? = some u->E.w.cell? ⟨b,o+j,none⟩=some u
section
variable {P:Program} {E:Amb}
theorem Jz {t:TypeId} {b o off:Nat} {cs:List V} {v:V} (h:Reads E b o cs) (hp:Xh P t cs off=some v):
 ∃ cv,(Instr.loadAt t (.pointer (some ⟨b,o+off,none⟩))).run P E.w = .ok cv E.w/\Rep E v cv:=by
 obtain⟨cvs,hr,hs,hc⟩:=h;unfold Xh at hp;split at hp
 ·rename_i n ha hz;split at hp
  ·rename_i hle;cases hp;have hlen:=hr.length;refine⟨.agg ((cvs.drop off).take n).toArray,?_,.agg ((hr.drop off).take n) fun c hm=>hs c (List.mem_of_mem_drop (List.mem_of_mem_take hm))⟩;have hl:((cvs.drop off).take n).length=n:=by simp;omega
   have:=run_loadCells_list (P:=P) E.w ⟨b,o+off,none⟩ ((cvs.drop off).take n) (fun j u hj=>by
    rw[Addr.add_mid];have hj':cvs[off+j]? = some u:=by
     rw[List.getElem?_take] at hj;split at hj
     ·rw[List.getElem?_drop] at hj;exact hj
     ·simp at hj
    have:=hc _ _ hj';rw[show o+off+j=o+(off+j) by omega];exact this)
   rw[hl] at this;simp[Instr.loadAt,Instr.sureAddr,loadVar,Vz ha,QK hz,this]
  ·cases hp
 ·rename_i n ha hz;obtain⟨cv,hcv,hrep⟩:=hr.get hp;refine⟨cv,?_,hrep⟩;have h1:=hc _ _ hcv;simp[Instr.loadAt,Instr.sureAddr,loadVar,Vz ha,load,Sem.run,h1]
 ·cases hp
theorem Rep.reads {v:V} {a:Option Addr} (h:Rep E (.rptr v) (.pointer a)):∃ b o,a=some ⟨b,o,none⟩/\Reads E b o v.cells/\∀ j,j<v.cells.length->E.I b (o+j):=by
 cases h with
 | @rptr _ cvs b o hl hw hc=>
   refine⟨b,o,rfl,⟨cvs,hl,hw,fun j u hj=>(hc j u hj).1⟩,fun j hj=>?_⟩;have hj':j<cvs.length:=by rw[hl.length];exact hj
   exact (hc j _ (List.getElem?_eq_getElem hj')).2
theorem Rep.Uj {v:V} {cv:Value} (h:Rep E (.rptr v) cv):∃ a,cv = .pointer a:=by cases h;exact⟨_,rfl⟩
theorem Rep.Qsq {v:V} {b o:Nat} (h:Reads E b o v.cells) (hI:∀ j,j<v.cells.length->E.I b (o+j)):Rep E (.rptr v) (.pointer (some ⟨b,o,none⟩)):=by
 obtain⟨cvs,hl,hs,hc⟩:=h;refine .rptr hl hs fun j u hj=>⟨hc j u hj,hI j ?_⟩
 rw[<- hl.length];exact (List.getElem?_eq_some_iff.1 hj).1
theorem yd {t:TypeId} {v:V} (h:fitV P t v=true):Xh P t v.cells 0=some v:=by
 unfold fitV at h;unfold Xh;split at h
 ·rename_i n ha hz;cases v<;>simp at h;rename_i cs;subst h;simp[V.cells]
 ·rename_i n ha hz;cases v<;>simp[V.scalar] at h<;>simp[V.cells]
 ·cases h
theorem Reads.part {b o off n:Nat} {cs:List V} (h:Reads E b o cs):Reads E b (o+off) ((cs.drop off).take n):=by
 obtain⟨cvs,hl,hs,hc⟩:=h;refine⟨(cvs.drop off).take n,(hl.drop off).take n,fun c hm=>hs c (List.mem_of_mem_drop (List.mem_of_mem_take hm)),fun j u hj=>?_⟩;rw[List.getElem?_take] at hj;split at hj
 ·rw[List.getElem?_drop] at hj;rw[show o+off+j=o+(off+j) by omega];exact hc _ _ hj
 ·simp at hj
theorem Vq {es:List V} {s i:Nat} {e:V} (hu:∀ e∈es,e.cells.length=s) (hi:es[i]? = some e):
 ((es.flatMap V.cells).drop (i*s)).take s=e.cells/\i*s+s<=(es.flatMap V.cells).length:=by
 induction es generalizing i with
 | nil=>simp at hi
 | cons x es ih=>
   have hx:=hu x (by simp);have hes:∀ e∈es,e.cells.length=s:=fun e he=>hu e (by simp[he]);cases i with
   | zero=>
     simp at hi;subst hi;simp only[List.flatMap_cons,Nat.zero_mul,List.drop_zero,List.length_append];refine⟨by rw[<- hx];exact List.take_left,by omega⟩
   | succ i=>
     simp at hi;obtain⟨h1,h2⟩:=ih hes hi;simp only[List.flatMap_cons,List.length_append];rw[show (i+1)*s=x.cells.length+i*s by rw[hx,Nat.succ_mul,Nat.add_comm],List.drop_append];simp only[Nat.add_sub_cancel_left];rw[show x.cells.drop (x.cells.length+i*s)=[] from List.drop_eq_nil_of_le (by omega)];exact⟨by simpa using h1,by omega⟩
theorem Yt {es:List V} {s:Nat} (hu:∀ e∈es,e.cells.length=s):(es.flatMap V.cells).length=es.length*s:=by
 induction es with
 | nil=>simp
 | cons x es ih=>
   simp only[List.flatMap_cons,List.length_append,List.length_cons];rw[ih fun e he=>hu e (by simp[he]),hu x (by simp),Nat.succ_mul,Nat.add_comm]
theorem Vp {es:List V} {s:Nat} (hu:∀ e∈es,e.cells.length=s) (n:Nat):(es.take n).flatMap V.cells=(es.flatMap V.cells).take (n*s):=by
 induction es generalizing n with
 | nil=>simp
 | cons x es ih=>
   have hx:=hu x (by simp);have hes:∀ e∈es,e.cells.length=s:=fun e he=>hu e (by simp[he]);cases n with
   | zero=>simp
   | succ n=>
     simp only[List.take_succ_cons,List.flatMap_cons];rw[ih hes n,List.take_append,show (n+1)*s=x.cells.length+n*s by rw[hx,Nat.succ_mul,Nat.add_comm]];simp only[Nat.add_sub_cancel_left];rw[show x.cells.take (x.cells.length+n*s)=x.cells from List.take_of_length_le (by omega)]
theorem ya {es:List V} {s:Nat} (hu:∀ e∈es,e.cells.length=s) (n:Nat):(es.drop n).flatMap V.cells=(es.flatMap V.cells).drop (n*s):=by
 induction es generalizing n with
 | nil=>simp
 | cons x es ih=>
   have hx:=hu x (by simp);have hes:∀ e∈es,e.cells.length=s:=fun e he=>hu e (by simp[he]);cases n with
   | zero=>simp
   | succ n=>
     simp only[List.drop_succ_cons,List.flatMap_cons];rw[ih hes n,List.drop_append,show (n+1)*s=x.cells.length+n*s by rw[hx,Nat.succ_mul,Nat.add_comm]];simp only[Nat.add_sub_cancel_left];rw[show x.cells.drop (x.cells.length+n*s)=[] from List.drop_eq_nil_of_le (by omega)];simp
end
def bitI (op:BinOp) (k:IntKind) (a b:Int):Int:=
 let x:=BitVec.ofInt k.bits a
 let y:=BitVec.ofInt k.bits b
 k.wrap (match op with|.and=>x &&& y|.or=>x ||| y|.xor=>x ^^^ y|_=>x &&& ~~~y).toNat
def cmpT (P:Program) (t:TypeId):Option (List (Nat × TypeId)):=
 match P.underlying t with
 | some (.struct fs)=>if P.stoodInHeld t=false/\P.eqGuardType P.depth t=false/\fs.toList.all (·.name != "_")=true then some (fs.toList.map fun f=>(f.offset,f.type)) else none
 | _=>none
def eqFs (P:Program) (f:TypeId->V->V->Option Bool):List (Nat × TypeId)->List V->List V->Option Bool
 | [],_,_=>some true
 | (o,t)::r,xs,ys=>(Xh P t xs o).bind fun a=>(Xh P t ys o).bind fun b=>(f t a b).bind fun q=>(eqFs P f r xs ys).map (q && ·)
def eqAr (P:Program) (f:TypeId->V->V->Option Bool) (e z:Nat) (xs ys:List V):List Nat->Option Bool
 | []=>some true
 | i::r=>(Xh P e xs (i*z)).bind fun a=>(Xh P e ys (i*z)).bind fun b=>(f e a b).bind fun q=>(eqAr P f e z xs ys r).map (q && ·)
def eqV (P:Program):Nat->TypeId->V->V->Option Bool
 | 0,_,_,_=>none
 | d+1,t,a,b=>match a,b with
   | .int k x,.int k' y=>match Qo P t with
     | .int _=>if k=k' then some (x == y) else none
     | _=>none
   | .bool x,.bool y=>if Qo P t = .bool then some (x == y) else none
   | .str x,.str y=>if Qo P t = .str then some (x.toList == y.toList) else none
   | .agg xs,.agg ys=>match arrT P t with
     | some (n,e)=>if P.eqGuardType P.depth t=false then (Qx P e).bind fun z=>eqAr P (eqV P d) e z xs ys (List.range n) else none
     | none=>(cmpT P t).bind fun fs=>eqFs P (eqV P d) fs xs ys
   | .cplx k a b,.cplx k' a' b'=>match Qo P t with
     | .cplx _=>if k=k' then some (Op.floatEq k a a' && Op.floatEq k b b') else none
     | _=>none
   | _,_=>none
@[simp] def isC:Operand->Bool
 | .const _=>true
 | _=>false
def binV (P:Program) (q:Bool) (op:BinOp) (t:TypeId):V->V->Option V
 | .int k a,.int k' b=>
   match op with
   | .shl=>if 0<=b then some (.int k (k.wrap (a*2 ^ (min b.toNat k.bits)))) else none
   | .shr=>if 0<=b then some (.int k (a.fdiv (2 ^ (min b.toNat k.bits)))) else none
   | .add=>if k=k' then some (.int k (k.wrap (a+b))) else none
   | .sub=>if k=k' then some (.int k (k.wrap (a - b))) else none
   | .mul=>if k=k' then some (.int k (k.wrap (a*b))) else none
   | .quo=>if k=k' then (if b=0 then none else some (.int k (k.wrap (a.tdiv b)))) else none
   | .rem=>if k=k' then (if b=0 then none else some (.int k (a.tmod b))) else none
   | .and=>if k=k' then some (.int k (bitI .and k a b)) else none
   | .or=>if k=k' then some (.int k (bitI .or k a b)) else none
   | .xor=>if k=k' then some (.int k (bitI .xor k a b)) else none
   | .andNot=>if k=k' then some (.int k (bitI .andNot k a b)) else none
   | .eql=>if k=k' then some (.bool (a == b)) else none
   | .neq=>if k=k' then some (.bool (a != b)) else none
   | .lss=>if k=k' then some (.bool (a<b)) else none
   | .leq=>if k=k' then some (.bool (a<=b)) else none
   | .gtr=>if k=k' then some (.bool (a > b)) else none
   | .geq=>if k=k' then some (.bool (a ≥ b)) else none
 | .str a,.str b=>
   match op with
   | .add=>if a.size+b.size<=9223372036854775807 then some (.str (a++b)) else none
   | .eql=>some (.bool (a.toList == b.toList))
   | .neq=>some (.bool !(a.toList == b.toList))
   | .lss=>some (.bool (Op.bytesLess a.toList b.toList))
   | _=>none
 | .bool a,.bool b=>
   match Qo P t,op with
   | .bool,.eql=>some (.bool (a == b))
   | .bool,.neq=>some (.bool !(a == b))
   | _,_=>none
 | .iface _ _,.nili=>
   match Qo P t,op with
   | .iface,.eql=>some (.bool false)
   | .iface,.neq=>some (.bool true)
   | _,_=>none
 | .nili,.nili=>
   match q,Qo P t,op with
   | true,.iface,.eql=>some (.bool true)
   | true,.iface,.neq=>some (.bool false)
   | _,_,_=>none
 | .agg xs,.agg ys=>
   match op with
   | .eql=>(eqV P 4 t (.agg xs) (.agg ys)).map .bool
   | .neq=>(eqV P 4 t (.agg xs) (.agg ys)).map fun r=>.bool !r
   | _=>none
 | .float k a,.float k' b=>
   if k=k' then
    match op with
    | .add=>(floatBits .add k a b).map (.float k)
    | .sub=>(floatBits .sub k a b).map (.float k)
    | .mul=>(floatBits .mul k a b).map (.float k)
    | .quo=>(floatBits .quo k a b).map (.float k)
    | .eql=>some (.bool (k.format.order a b == some .eq))
    | .neq=>some (.bool (k.format.order a b != some .eq))
    | .lss=>some (.bool (k.format.order a b == some .lt))
    | .leq=>some (.bool (k.format.order a b == some .lt||k.format.order a b == some .eq))
    | .gtr=>some (.bool (k.format.order a b == some .gt))
    | .geq=>some (.bool (k.format.order a b == some .gt||k.format.order a b == some .eq))
    | _=>none
   else none
 | .cplx k a b,.cplx k' c d=>
   if k=k' then
    match op with
    | .add=>(cSumBits .add k a b c d).map fun r=>.cplx k r.1 r.2
    | .sub=>(cSumBits .sub k a b c d).map fun r=>.cplx k r.1 r.2
    | .mul=>if k = .f64 then (cMulBits a b c d).map fun r=>.cplx .f64 r.1 r.2 else none
    | .eql=>some (.bool ((k.format.order a c == some .eq)&&(k.format.order b d == some .eq)))
    | .neq=>some (.bool !((k.format.order a c == some .eq)&&(k.format.order b d == some .eq)))
    | _=>none
   else none
 | _,_=>none
def unV (op:UnOp):V->Option V
 | .int k n=>match op with|.neg=>some (.int k (k.wrap (0 - n)))|.xor=>some (.int k (bitI .xor k (if k.signed then -1 else k.max) n))|_=>none
 | .bool b=>match op with|.not=>some (.bool !b)|_=>none
 | .float k b=>match op with|.neg=>some (.float k (Op.negFloat k b))|_=>none
 | _=>none
def QEq (P:Program) (src dst:TypeId):V->Option V
 | .int _ n=>match Qo P src,Qo P dst with
   | .int _,.int k=>some (.int k (k.wrap n))
   | .int _,.float k=>some (.float k (k.nearest n))
   | .int _,.str=>some (.str (Utf8.encode n))
   | _,_=>none
 | .float s b=>match Qo P src,Qo P dst with
   | .float _,.int k=>(floatToIntVal s b k).map (.int k)
   | .float _,.float k=>if s=k then some (.float k b) else none
   | _,_=>none
 | .cplx s a b=>match Qo P src,Qo P dst with
   | .cplx _,.cplx k=>if s=k then some (.cplx k a b) else none
   | _,_=>none
 | .str s=>match Qo P src,Qo P dst with|.str,.str=>some (.str s)|_,_=>none
 | _=>none
def Uo (P:Program) (b:Builtin) (ats:List TypeId) (vs:List V):Option V:=
 match b,ats,vs with
 | .len,[t],[.slice es]=>if Qo P t = .slice then some (.int .i64 es.length) else none
 | .len,[t],[.snil]=>if Qo P t = .slice then some (.int .i64 0) else none
 | .len,[t],[.str s]=>if Qo P t = .str then some (.int .i64 s.size) else none
 | .max,_,[.int k a,.int _ b]=>some (.int k (if b > a then b else a))
 | .min,_,[.int k a,.int _ b]=>some (.int k (if b<a then b else a))
 | .real,_,[.cplx k a _]=>some (.float k a)
 | .imag,_,[.cplx k _ b]=>some (.float k b)
 | .complex,_,[.float k a,.float k' b]=>if k=k' then some (.cplx k a b) else none
 | _,_,_=>none
def JW (P:Program) (t:TypeId):V->V->Option V
 | .slice es,.int _ i=>
   (Wt P t).bind fun el=>(Qx P el).bind fun n=>
     if 0<=i then (es[i.toNat]?).bind fun e=>if e.cells.length=n then some (.rptr e) else none else none
 | .rptr (.agg cs),.int _ i=>
   (arrT P t).bind fun (m,el)=>(Qx P el).bind fun n=>if 0<=i/\i<m then (Xh P el cs (i.toNat*n)).map .rptr else none
 | .ptr id off,.int _ i=>
   (arrT P t).bind fun (m,el)=>(Qx P el).bind fun n=>if 0<=i/\i<m then some (.ptr id (off+i.toNat*n)) else none
 | _,_=>none
def atV (P:Program) (t:TypeId):V->V->Option V
 | .agg cs,.int _ i=>(arrT P t).bind fun (m,el)=>(Qx P el).bind fun n=>if 0<=i/\i<m then Xh P el cs (i.toNat*n) else none
 | .str s,.int _ i=>if Qo P t = .str/\0<=i then (s[i.toNat]?).map fun b=>.int .u8 b.toNat else none
 | _,_=>none
def vm (P:Program) (s f:Nat):V->Option V
 | .rptr (.agg cs)=>(fldT P s f).bind fun (o,t)=>(Qx P t).bind fun n=>if n=0 then none else (Xh P t cs o).map .rptr
 | .ptr id off=>(fldT P s f).bind fun (o,t)=>(Qx P t).bind fun n=>if n=0 then none else some (.ptr id (off+o))
 | .eptr id ver z i off=>(fldT P s f).bind fun (o,t)=>(Qx P t).bind fun n=>if n=0 then none else some (.eptr id ver z i (off+o))
 | _=>none
def bndV (d:Nat):Option (Option V)->Option Nat
 | none=>some d
 | some (some (.int _ i))=>if 0<=i then some i.toNat else none
 | _=>none
def cut0 (lo hi mx:Option (Option V)):Option V:=
 if mx.isSome/\hi.isNone then none else
 (bndV 0 lo).bind fun l=>(bndV 0 hi).bind fun h=>(bndV 0 mx).bind fun m=>if l=0/\h=0/\m=0 then some .snil else none
def cutS (es:List V) (lo hi:Option (Option V)):Option V:=
 (bndV 0 lo).bind fun l=>(bndV es.length hi).bind fun h=>if l<=h/\h<=es.length then some (.slice ((es.drop l).take (h - l))) else none
def cutB (s:ByteArray) (lo hi:Option (Option V)):Option V:=
 (bndV 0 lo).bind fun l=>(bndV s.size hi).bind fun h=>if l<=h/\h<=s.size then some (.str (s.extract l h)) else none
def cutV (P:Program) (t:TypeId) (x:Option V) (lo hi mx:Option (Option V)):Option V:=
 match x with
 | some (.slice es)=>(Wt P t).bind fun el=>(Qx P el).bind fun n=>if es.all (·.cells.length == n)=true then (if mx.isNone then cutS es lo hi else cut0 lo hi mx) else none
 | some .snil=>(Wt P t).bind fun el=>(Qx P el).bind fun _=>cut0 lo hi mx
 | some (.str s)=>if Qo P t = .str/\mx.isNone then cutB s lo hi else none
 | some (.rptr (.agg cs))=>if lo.isNone=true/\hi.isNone=true/\mx.isNone=true then (arrT P t).bind fun (n,el)=>if Qx P el=some 1/\aggT P el=some false/\cs.length=n/\0<n then some (.slice cs) else none else none
 | _=>none
def allV (lk:Operand->Option V):List Operand->Option (List V)
 | []=>some []
 | x::xs=>(lk x).bind fun v=>(allV lk xs).bind fun vs=>some (v::vs)
def QY (P:Program) (lk:Operand->Option V):Op->Option V
 | .move x|.assign x=>lk x
 | .pick c a b=>(lk c).bind fun|.bool c=>if c then lk a else lk b|_=>none
 | .binOp op t x y _=>(lk x).bind fun a=>(lk y).bind fun b=>binV P (isC x||isC y) op t a b
 | .unOp op _ x=>(lk x).bind (unV op)
 | .convert src dst x=>(lk x).bind (QEq P src dst)
 | .makeFunc fn first cap=>(allV lk first.toList).bind fun f=>(allV lk cap.toList).bind fun c=>some (.func fn f c)
 | .makeInterface t x=>if Qo P t = .iface∨Qo P t = .other then none else (lk x).map (.iface t)
 | .nilCheck x=>(lk x).bind fun|.rptr v=>some (.rptr v)|.ptr i o=>some (.ptr i o)|.eptr i v z k o=>some (.eptr i v z k o)|.func (.func f) a b=>some (.func (.func f) a b)|_=>none
 | .fieldAddr s x f=>(lk x).bind (vm P s f)
 | .field s x f=>(lk x).bind fun|.agg cs=>(fldT P s f).bind fun (o,t)=>Xh P t cs o|_=>none
 | .indexAddr t x i=>(lk x).bind fun a=>(lk i).bind fun b=>JW P t a b
 | .index t x i=>(lk x).bind fun a=>(lk i).bind fun b=>atV P t a b
 | .extract x i=>(lk x).bind fun|.tup vs=>vs[i]?|_=>none
 | .load t x=>(lk x).bind fun|.rptr v=>if fitV P t v then some v else none|_=>none
 | .slice t x lo hi mx=>cutV P t (lk x) (lo.map lk) (hi.map lk) (mx.map lk)
 | .typeAssert x _ t ok=>(lk x).bind fun
   | .iface u v=>if Qo P t = .iface∨Qo P t = .other∨u≠t then none else some (if ok then .tup [v,.bool true] else v)
   | _=>none
 | .call c=>match c.callee with
   | .builtin b=>(allV lk c.args.toList).bind fun vs=>Uo P b c.argTypes.toList vs
   | _=>none
 | _=>none
end Go.Awp
