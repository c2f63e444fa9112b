/- AWP, text 7: new memory, and what is written into one's own. -/
import Derived.Test.YtnielafbkgpgjaaGreatDoorX2
import Derived.Laws.CopyRow
import Derived.Laws.Tables
set_option linter.all false
set_option maxRecDepth 100000
set_option maxHeartbeats 8000000
namespace Go.Awp
open Go
section
variable {P:Program} {E:Amb} {σ:Qa}
def Amb.alloc (E:Amb) (o:Obj) (j:Option Id):Amb:=
 {I:=fun b k=>E.I b k∨(j=none/\b=E.w.heap.size)
  ι:=fun id=>if some id=j then .cells E.w.heap.size else E.ι id
  w:=E.w.alloc o }
theorem YL (w:World) (o:Obj) (k:Nat) (h:k<w.heap.size):(w.alloc o).heap[k]? = w.heap[k]?:=Go.RowKit.Below.heap_alloc w o k h
theorem JX (w:World) (o:Obj):(w.alloc o).heap[w.heap.size]? = some o:=by show (w.heap.push o)[w.heap.size]? = _;simp
theorem size_alloc (w:World) (o:Obj):(w.alloc o).heap.size=w.heap.size+1:=by show (w.heap.push o).size=_;simp
theorem um (w:World) (o:Obj) (b k:Nat) (h:b<w.heap.size):(w.alloc o).cell? ⟨b,k,none⟩=w.cell? ⟨b,k,none⟩:=
 World.cell?_of_block (YL w o b h)
theorem Amb.wE (hI:∀ b o,E.I b o->b<E.w.heap.size) (o:Obj) (j:Option Id) (hj:∀ i,j=some i->E.ι i = .unborn):E.Le (E.alloc o j):=by
 refine⟨fun b k h=>.inl h,fun b k h=>um _ _ _ _ (hI b k h),fun id=>?_,fun b es clk h e=>by rw[<- e];exact YL _ _ _ (hI b 0 h)⟩;simp only[Amb.alloc];split
 ·rename_i e;rw[hj id e.symm];trivial
 ·exact Loc.Le.refl _
theorem vJ (h:Qk E σ) (o:Obj) (j:Option Id) (hj:∀ i,j=some i->E.ι i = .unborn) (σ':Qa) (hk:∀ id,id∈σ'.keys->id∈σ.keys∨some id=j):Grow E σ (E.alloc o j) σ':=by
 refine⟨Amb.wE h.imm o j hj,fun b hb _=>YL _ _ _ hb,fun b k hi=>?_,fun id hn hu=>?_,fun id hi=>?_,fun b hb=>?_,rfl,rfl,rfl,?_⟩
 ·rcases hi with hi|⟨_,rfl⟩
  ·exact .inl hi
  ·exact .inr (.inl (Nat.le_refl _))
 ·simp only[Amb.alloc];split
  ·rename_i e;exact absurd (hj id e.symm) hu
  ·rfl
 ·rcases hk id hi with hi|e
  ·exact .inl hi
  ·exact .inr (hj id e.symm)
 ·obtain⟨id,hi,hb⟩:=hb;simp only[Amb.alloc] at hb;split at hb
  ·simp[Loc.block] at hb;exact .inl (by omega)
  ·rename_i hne;rcases hk id hi with hi|e
   ·exact .inr ⟨id,hi,hb⟩
   ·exact absurd e hne
 ·show E.w.heap.size<=(E.w.alloc _).heap.size;rw[size_alloc];omega
theorem vI (h:Qk E σ) (o:Obj) (j:Option Id) (hj:∀ i,j=some i->E.ι i = .unborn) {id:Id} {k:Blk} (hk:Wd E id k) (hne:some id≠j):Wd (E.alloc o j) id k:=by
 refine hk.keep (Amb.wE h.imm o j hj) (by simp[Amb.alloc,hne]) (fun b hb=>YL _ _ _ (hk.size hb)) fun b hb k hi=>?_;rcases hi with hi|⟨_,rfl⟩
 ·exact hi
 ·have:=hk.size hb;omega
theorem ym (h:Qk E σ) (o:Obj) (j:Option Id):∃ N,∀ id:Id,N<=id.1->(E.alloc o j).ι id = .unborn:=by
 obtain⟨N,hN⟩:=h.fin;refine⟨max N (match j with|some i=>i.1+1|none=>0),fun id hid=>?_⟩;simp only[Amb.alloc];split
 ·rename_i e;cases j with
  | none=>cases e
  | some i=>cases e;simp at hid;omega
 ·exact hN id (by omega)
theorem yn (h:Qk E σ) {j:Id} (hj:E.ι j = .unborn) (o:Obj) (k:Blk)
 (hk:E.Le (E.alloc o (some j))->(E.alloc o (some j)).ι j = .cells E.w.heap.size->(E.alloc o (some j)).w.heap[E.w.heap.size]? = some o->(∀ q,¬ (E.alloc o (some j)).I E.w.heap.size q)->Wd (E.alloc o (some j)) j k):
 let E':=E.alloc o (some j)
 E'.ι j = .cells E.w.heap.size/\Qk E' ((j,k)::σ)/\Grow E σ E' ((j,k)::σ)/\∀ id,id≠j->E.ι id = .unborn->E'.ι id = .unborn:=by
 intro E';have hj':∀ i,some j=some i->E.ι i = .unborn:=fun i e=>by cases e;exact hj
 have hle:E.Le E':=Amb.wE h.imm _ _ hj';have hιj:E'.ι j = .cells E.w.heap.size:=by simp[E',Amb.alloc]
 have hnot:j∉σ.keys:=fun hm=>by obtain⟨k,_,hk⟩:=h.mem hm;exact hk.born hj
 refine⟨hιj,⟨?_,?_,?_,?_,ym h _ _⟩,vJ h _ _ hj' _ fun id hi=>?_,fun id hne hu=>by simp[E',Amb.alloc,hne,hu]⟩
 ·intro id b hm;rcases List.mem_cons.1 hm with e|hm
  ·cases e;refine hk hle hιj (JX _ _) fun o hi=>?_;rcases hi with hi|⟨e,_⟩
   ·have:=h.imm _ _ hi;omega
   ·cases e
  ·have:id∈σ.keys:=List.mem_map.2 ⟨_,hm,rfl⟩;exact vI h _ _ hj' (h.blk id b hm) (fun e=>by cases e;exact hnot this)
 ·show (j::σ.keys).Nodup;exact List.nodup_cons.2 ⟨hnot,h.nodup⟩
 ·intro i l hi hl hne b hb hkb;have key:∀ i,i∈Qa.keys ((j,k)::σ)->i=j∨(i∈σ.keys/\i≠j):=fun i hi=>by
   rcases List.mem_cons.1 hi with e|hi
   ·exact .inl e
   ·exact .inr ⟨hi,fun e=>hnot (e▸hi)⟩
  have old:∀ i,i≠j->E'.ι i=E.ι i:=fun i hi=>by simp[E',Amb.alloc,hi]
  rcases key i hi with e1|⟨hi,hij⟩<;>rcases key l hl with e2|⟨hl,hkj⟩
  ·exact hne (e1.trans e2.symm)
  ·rw[e1,hιj] at hb;simp[Loc.block] at hb;rw[old l hkj] at hkb;obtain⟨kk,_,hkk⟩:=h.mem hl;have:=hkk.size hkb;omega
  ·rw[e2,hιj] at hkb;simp[Loc.block] at hkb;rw[old i hij] at hb;obtain⟨kk,_,hkk⟩:=h.mem hi;have:=hkk.size hb;omega
  ·rw[old i hij] at hb;rw[old l hkj] at hkb;exact h.apart i l hi hl hne b hb hkb
 ·intro b o hi;rcases hi with hi|⟨_,rfl⟩
  ·have:=h.imm b o hi;(show b<(E.w.alloc _).heap.size;rw[size_alloc];omega)
  ·show E.w.heap.size<(E.w.alloc _).heap.size;rw[size_alloc];omega
 ·rcases List.mem_cons.1 hi with e|hi
  ·exact .inr (by rw[e])
  ·exact .inl hi
theorem yl (h:Qk E σ) {j:Id} (hj:E.ι j = .unborn) {t:TypeId} {cs:List V} {c:Array Value} (hr:RepL E cs c.toList) (hs:∀ x∈cs,x.scalar=true):
 let E':=E.alloc (.cells c t (0,0)) (some j)
 Rep E' (.ptr j 0) (.pointer (some ⟨E.w.heap.size,0,none⟩))/\Qk E' ((j,.cells t cs)::σ)/\Grow E σ E' ((j,.cells t cs)::σ)/\∀ id,id≠j->E.ι id = .unborn->E'.ι id = .unborn:=by
 intro E';obtain⟨a,b⟩:=yn h hj (.cells c t (0,0)) (.cells t cs) fun hle hι hh hI=>⟨_,c,hι,hh,hr.mono hle,hs,hI⟩
 exact⟨.ptr a,b⟩
theorem alloc_map (h:Qk E σ) {j:Id} (hj:E.ι j = .unborn):
 let E':=E.alloc (.map #[] 0) (some j)
 Rep E' (.map j) (.map (some E.w.heap.size))/\Qk E' ((j,.map [] [] 0)::σ)/\Grow E σ E' ((j,.map [] [] 0)::σ)/\∀ id,id≠j->E.ι id = .unborn->E'.ι id = .unborn:=by
 intro E';obtain⟨a,b⟩:=yn h hj (.map #[] 0) (.map [] [] 0) fun _ hι hh hI=>⟨_,#[],hι,hh,.nil,.nil,hI⟩
 exact⟨.map a,b⟩
theorem alloc_imm (h:Qk E σ) (c:Array Value) (t:TypeId):
 let E':=E.alloc (.cells c t (0,0)) none
 E.Le E'/\Qk E' σ/\Grow E σ E' σ/\(∀ id,E.ι id = .unborn->E'.ι id = .unborn)/\
  ∀ j u,c[j]? = some u->E'.w.cell? ⟨E.w.heap.size,j,none⟩=some u/\E'.I E.w.heap.size j:=by
 intro E';have hj':∀ i,none=some i->E.ι i = .unborn:=fun i e=>by cases e
 have hle:E.Le E':=Amb.wE h.imm _ _ hj';have old:∀ i,E'.ι i=E.ι i:=fun i=>by simp[E',Amb.alloc]
 refine⟨hle,⟨?_,h.nodup,?_,?_,ym h _ _⟩,vJ h _ _ hj' _ fun id hi=>.inl hi,fun id hu=>by rw[old];exact hu,fun j u hu=>⟨?_,.inr ⟨rfl,rfl⟩⟩⟩
 ·exact fun id b hm=>vI h _ _ hj' (h.blk id b hm) (by simp)
 ·intro i k hi hk hne b hb hkb;rw[old i] at hb;rw[old k] at hkb;exact h.apart i k hi hk hne b hb hkb
 ·intro b o hi;rcases hi with hi|⟨_,rfl⟩
  ·have:=h.imm b o hi;(show b<(E.w.alloc _).heap.size;rw[size_alloc];omega)
  ·show E.w.heap.size<(E.w.alloc _).heap.size;rw[size_alloc];omega
 ·show (E.w.alloc _).cell? _=_;unfold World.cell?;rw[show (⟨E.w.heap.size,j,none⟩:Addr).block=E.w.heap.size from rfl,JX];simpa using hu
def Qa.get:Qa->Id->Option Blk
 | [],_=>none
 | (i,k)::r,id=>if i=id then some k else Qa.get r id
def Qa.put:Qa->Id->Blk->Qa
 | [],_,_=>[]
 | (i,k)::r,id,b=>if i=id then (i,b)::r else (i,k)::Qa.put r id b
theorem Qa.XM (σ:Qa) (id:Id) (b:Blk):(σ.put id b).keys=σ.keys:=by
 induction σ with
 | nil=>rfl
 | cons x r ih=>
   obtain⟨i,k⟩:=x;simp only[Qa.put];split
   ·rfl
   ·show i::Qa.keys (Qa.put r id b)=i::Qa.keys r;rw[ih]
theorem Qa.jg {σ:Qa} {id:Id} {b:Blk} {x:Id × Blk} (h:x∈σ.put id b):x=(id,b)∨(x∈σ/\(σ.keys.Nodup->x.1≠id)):=by
 induction σ with
 | nil=>simp[Qa.put] at h
 | cons y r ih=>
   obtain⟨i,k⟩:=y;simp only[Qa.put] at h;split at h
   ·rename_i e;subst e;rcases List.mem_cons.1 h with h|h
    ·exact .inl h
    ·refine .inr ⟨List.mem_cons_of_mem _ h,fun hn e=>?_⟩;have hn:=(List.nodup_cons.1 hn).1;exact hn (List.mem_map.2 ⟨x,h,e⟩)
   ·rename_i hne;rcases List.mem_cons.1 h with h|h
    ·subst h;exact .inr ⟨List.mem_cons_self,fun _=>hne⟩
    ·rcases ih h with e|⟨hm,hx⟩
     ·exact .inl e
     ·exact .inr ⟨List.mem_cons_of_mem _ hm,fun hn=>hx (List.nodup_cons.1 hn).2⟩
theorem Qa.get_mem {σ:Qa} {id:Id} {b:Blk} (h:σ.get id=some b):(id,b)∈σ:=by
 induction σ with
 | nil=>simp[Qa.get] at h
 | cons y r ih=>
   obtain⟨i,k⟩:=y;simp only[Qa.get] at h;split at h
   ·rename_i e;cases h;subst e;exact List.mem_cons_self
   ·exact List.mem_cons_of_mem _ (ih h)
theorem UI (h:Qk E σ) {id:Id} {k k':Blk} (hm:(id,k)∈σ) {b:Nat} (hb:(E.ι id).block=some b) (w':World)
 (hsz:w'.heap.size=E.w.heap.size) (hos:w'.os=E.w.os) (htape:w'.tape=E.w.tape) (hout:w'.output=E.w.output)
 (hoth:∀ i,i≠b->w'.heap[i]? = E.w.heap[i]?)
 (hI:∀ o,E.I b o->w'.cell? ⟨b,o,none⟩=E.w.cell? ⟨b,o,none⟩)
 (hk':E.Le { E with w:=w' }->Wd { E with w:=w' } id k'):
 Qk { E with w:=w' } (σ.put id k')/\Grow E σ { E with w:=w' } (σ.put id k'):=by
 have hle:E.Le { E with w:=w' }:=by
  refine⟨fun _ _ h=>h,fun c o hi=>?_,fun _=>Loc.Le.refl _,fun c es clk hi hm'=>?_⟩
  ·by_cases e:c=b
   ·subst e;exact hI o hi
   ·exact World.cell?_of_block (hoth c e)
  ·by_cases e:c=b
   ·subst e;exact absurd hm' ((h.blk _ _ hm).nomap hb es clk hi)
   ·show w'.heap[c]? = _;rw[hoth c e];exact hm'
 have hid:id∈σ.keys:=List.mem_map.2 ⟨_,hm,rfl⟩;constructor
 ·refine⟨fun i x hx=>?_,by rw[Qa.XM];exact h.nodup,by rw[Qa.XM];exact h.apart,fun c o hi=>by have:=h.imm c o hi;simp only[hsz];exact this,h.fin⟩;rcases Qa.jg hx with e|⟨hx,hne⟩
  ·cases e;exact hk' hle
  ·have hne:=hne h.nodup;have hi:i∈σ.keys:=List.mem_map.2 ⟨_,hx,rfl⟩;refine (h.blk i x hx).keep hle rfl (fun c hc=>hoth c fun e=>?_) fun _ _ _ hi=>hi;subst e;exact h.apart i id hi hid hne c hc hb
 ·refine⟨hle,fun c hc ho=>hoth c fun e=>ho ⟨id,hid,by rw[e];exact hb⟩,fun _ _ hi=>.inl hi,fun _ _ _=>rfl,fun i hi=>.inl (by rw[Qa.XM] at hi;exact hi),fun c ⟨i,hi,hc⟩=>.inr ⟨i,by rw[Qa.XM] at hi;exact hi,hc⟩,hos,htape,hout,by simp[hsz]⟩
end
def ofS:Value->Option V
 | .bool b=>some (.bool b)
 | .int k n=>some (.int k n)
 | .float k n=>some (.float k n)
 | .complex k n m=>some (.cplx k n m)
 | .string s=>some (.str s)
 | .pointer none=>some .nilp
 | .slice none 0 0=>some .snil
 | .nilFunc=>some .nilf
 | .nilIface=>some .nili
 | .map none=>some .mnil
 | _=>none
def allS:List Value->Option (List V)
 | []=>some []
 | x::xs=>(ofS x).bind fun v=>(allS xs).bind fun vs=>some (v::vs)
def ofV:Value->Option V
 | .agg cs=>(allS cs.toList).map .agg
 | v=>ofS v
theorem ofS_rep {E:Amb} {cv:Value} {v:V} (h:ofS cv=some v):Rep E v cv/\v.scalar=true:=by
 unfold ofS at h;split at h<;>cases h<;>exact⟨by constructor,rfl⟩
theorem allS_rep {E:Amb} {cvs:List Value} {vs:List V} (h:allS cvs=some vs):RepL E vs cvs/\∀ v∈vs,v.scalar=true:=by
 induction cvs generalizing vs with
 | nil=>simp[allS] at h;subst h;exact⟨.nil,by simp⟩
 | cons x xs ih=>
   simp only[allS] at h;obtain⟨v,hv,h1⟩:=Option.bind_eq_some_iff.1 h;obtain⟨us,hu,h2⟩:=Option.bind_eq_some_iff.1 h1;cases h2;have:=ofS_rep (E:=E) hv;have h3:=ih hu;exact⟨.cons this.1 h3.1,fun u hu=>by rcases List.mem_cons.1 hu with e|e;exact e▸this.2;exact h3.2 u e⟩
theorem qR {E:Amb} {cv:Value} {v:V} (h:ofV cv=some v):Rep E v cv/\v.ok:=by
 unfold ofV at h;split at h
 ·rename_i cs;obtain⟨vs,hv,rfl⟩:=Option.map_eq_some_iff.1 h;have:=allS_rep (E:=E) hv;exact⟨by have:=Rep.agg this.1 this.2;simpa using this,this.2⟩
 ·have:=ofS_rep (E:=E) h;refine⟨this.1,?_⟩;have h2:=this.2;intro c hc;cases v<;>simp[V.cells,V.scalar] at hc h2 ⊢<;>subst hc<;>rfl
def QQ (P:Program) (t:TypeId):Option V:=((P.info? t).bind (·.zero)).bind ofV
theorem Jk {P:Program} {t:TypeId} {v:V} (h:QQ P t=some v) (E:Amb):∃ cv,(∀ w,(zeroValue t).run P w = .ok cv w)/\Rep E v cv/\v.ok/\RepL E v.cells cv.cells.toList:=by
 unfold QQ at h;obtain⟨cv,hz,hv⟩:=Option.bind_eq_some_iff.1 h;obtain⟨i,hi,hz⟩:=Option.bind_eq_some_iff.1 hz;have:=qR (E:=E) hv;have hw:v.wf=true:=by
  have h2:=this.2;cases v<;>first|rfl|(have:=h2 _ (by simp[V.cells];rfl);simp[V.scalar] at this)
 exact⟨cv,fun w=>by simp[zeroValue,typeInfo,hi,hz],this.1,this.2,(this.1.cells hw).1⟩
inductive Upd where
 | none
 | new (b:Blk)
 | put (id:Id) (b:Blk)
 deriving Inhabited
def Upd.Wf:Upd->Bool
 | .new _=>true
 | _=>false
def Upd.app (σ:Qa) (j:Id):Upd->Qa
 | .none=>σ
 | .new b=>(j,b)::σ
 | .put id b=>σ.put id b
def setL (cs:List V) (off:Nat) (vs:List V):List V:=cs.take off++vs++cs.drop (off+vs.length)
def YH (lk:Operand->Option V):List (Nat × Operand)->Option (List (Nat × V))
 | []=>some []
 | (i,x)::r=>(lk x).bind fun v=>(YH lk r).bind fun vs=>some ((i,v)::vs)
def QN (P:Program) (lk:Operand->Option V) (get:Id->Option Blk) (j:Id):Op->Option (V × Upd)
 | .load t x=>(lk x).bind fun
   | .ptr id off=>(get id).bind fun|.cells _ cs=>(Xh P t cs off).map (·,.none)|_=>none
   | .eptr id ver s i off=>(get id).bind fun
     | .vec _ s' es ver' _=>if ver=ver'/\s=s' then (es[i]?).bind fun e=>(if off=0/\fitV P t e=true then some e else Xh P t e.cells off).map (·,.none) else none
     | _=>none
   | _=>none
 | .store t x y=>(lk x).bind fun p=>(lk y).bind fun v=>match p with
   | .ptr id off=>(get id).bind fun
     | .cells t' cs=>if Qx P t=some v.cells.length/\v.wf=true/\off+v.cells.length<=cs.length then some (.any,.put id (.cells t' (setL cs off v.cells))) else none
     | _=>none
   | .eptr id ver s i off=>(get id).bind fun
     | .vec t' s' es ver' true=>if ver=ver'/\s=s' then (es[i]?).bind fun e=>
        if Qx P t=some v.cells.length/\v.wf=true/\off+v.cells.length<=e.cells.length then
         some (.any,.put id (.vec t' s' (es.set i (if off=0/\v.cells.length=e.cells.length then v else .agg (setL e.cells off v.cells))) ver' true)) else none
       else none
     | _=>none
   | _=>none
 | .alloc t=>(QQ P t).map fun z=>(.ptr j 0,.new (.cells t z.cells))
 | .box t x=>(lk x).bind fun v=>if v.wf=true then some (.ptr j 0,.new (.cells t v.cells)) else none
 | _=>none
def OpOk (P:Program) (o:Oper) (lk:Operand->Option V) (σ:Qa) (j:Id) (v:V) (σ':Qa) (nw:Bool):Prop:=
 ∀ (E:Amb) (ρ:Operand->Value),Qk E σ->E.ι j = .unborn->(∀ x∈o.op.operands,∀ u,lk x=some u->Rep E u (ρ x))->
  ∃ E' cv,((execOp ρ o).run P E.w = .ok (.value cv) E'.w∨((execOp ρ o).run P E.w = .ok .skip E'.w/\cv=undef))/\Rep E' v cv/\Qk E' σ'/\Grow E σ E' σ'/\
   ∀ id,(nw=true->id≠j)->E.ι id = .unborn->E'.ι id = .unborn
section
variable {P:Program} {lk:Operand->Option V} {σ:Qa} {j:Id}
theorem OpOk.pure {o:Oper} {v:V} (h:QY P lk o.op=some v):OpOk P o lk σ j v σ false:=fun E ρ hs _ hρ=>by
 obtain⟨cv,h1,h2⟩:=yM h hρ;exact⟨E,cv,.inl h1,h2,hs,Grow.refl E σ,fun _ _ h=>h⟩
theorem Wd.reads {E:Amb} {id:Id} {t:TypeId} {cs:List V} (h:Wd E id (.cells t cs)) {off:Nat} {cv:Value} (hp:Rep E (.ptr id off) cv):
 ∃ b,cv = .pointer (some ⟨b,0+off,none⟩)/\Reads E b 0 cs:=by
 obtain⟨b,c,e,hh,hr,hs,_⟩:=h;obtain⟨b',e',rfl⟩:=VH hp;rw[e] at e';cases e';exact⟨b,by simp,c.toList,hr,hs,fun k u hk=>by
  unfold World.cell?;simp only[hh,Option.isSome_none,Bool.false_eq_true,if_false];simpa using hk⟩
theorem flat_get {es:List V} {s i:Nat} {e:V} (hu:∀ e∈es,e.cells.length=s) (hi:es[i]? = some e) {k:Nat} (hk:k<s):(es.flatMap V.cells)[i*s+k]? = e.cells[k]?:=by
 have:=(Vq hu hi).1;rw[<- this,List.getElem?_take,if_pos hk,List.getElem?_drop]
theorem Wd.readsE {E:Amb} {id:Id} {t:TypeId} {s ver i off:Nat} {es:List V} {wr:Bool} (h:Wd E id (.vec t s es ver wr)) {cv:Value} {e:V} (hi:es[i]? = some e)
 (hp:Rep E (.eptr id ver s i off) cv):∃ b,cv = .pointer (some ⟨b,i*s+off,none⟩)/\Reads E b (i*s) e.cells/\(E.ι id).block=some b:=by
 obtain⟨hv,xs,eι,hown,hr,hs,h0,hI⟩:=h;have hu:∀ e∈es,e.cells.length=s:=fun e he=>(hs e he).1;cases hp with
 | @eptr _ _ ver'' _ _ _ b hv' h1 hle hc=>
   rw[eι] at h1;cases h1;obtain⟨n,c,rfl⟩:=hc rfl;rcases hown.2 with⟨a,hn,hn0⟩|⟨g,cap,cur,hc0,e1,hg,hcap,_,hsz,htk⟩
   ·have:=(List.getElem?_eq_some_iff.1 hi).1;omega
   ·cases e1;refine⟨b,rfl,?_,by rw[eι];simp[Loc.block,hblk];omega⟩;have hlen:(es.flatMap V.cells).length=es.length*s:=Yt hu;have hlt:i<es.length:=(List.getElem?_eq_some_iff.1 hi).1;have hR:Reads E b 0 (es.flatMap V.cells):=by
     refine⟨xs,hr,fun c hm=>by obtain⟨e',he',hm'⟩:=List.mem_flatMap.1 hm;exact (hs e' he').2 c hm',fun k u hk=>?_⟩;unfold World.cell?;simp only[hg,Option.isSome_none,Bool.false_eq_true,if_false,Nat.zero_add];rw[<- htk,List.getElem?_take] at hk;split at hk
     ·simpa using hk
     ·cases hk
    have:=hR.part (off:=i*s) (n:=s);rw[(Vq hu hi).1,Nat.zero_add] at this;exact this
end
section
variable {P:Program} {lk:Operand->Option V} {σ:Qa} {j:Id} {E:Amb}
theorem RepL.setL {cs us:List V} {cvs uvs:List Value} (h:RepL E cs cvs) (k:RepL E us uvs) (off:Nat):
 RepL E (setL cs off us) (cvs.take off++uvs++cvs.drop (off+uvs.length)):=by
 unfold Awp.setL;rw[k.length];exact ((h.take _).append k).append (h.drop _)
theorem Ui {cs us:List V} {off:Nat} (h:off+us.length<=cs.length):(setL cs off us).length=cs.length:=by
 unfold setL;simp;omega
theorem jD {cs us:List V} {off:Nat} {x:V} (h:x∈setL cs off us):x∈cs∨x∈us:=by
 unfold setL at h;simp only[List.mem_append] at h;rcases h with (h|h)|h
 ·exact .inl (List.mem_of_mem_take h)
 ·exact .inr h
 ·exact .inl (List.mem_of_mem_drop h)
theorem setRow_size (w:World) (g:Nat) (cs:Array Value):(w.setRow g cs).heap.size=w.heap.size:=by simp[World.setRow]
theorem Vj (w:World) (g:Nat) (cs:Array Value) (i:Nat) (h:i≠g):(w.setRow g cs).heap[i]? = w.heap[i]?:=by
 simp only[World.setRow,Array.getElem?_modify];rw[if_neg (fun e=>h e.symm)]
theorem jF {t:TypeId} {b off:Nat} {c:Array Value} {t':TypeId} {cv:Value} {w:World} (hg:w.heap[b]? = some (.cells c t' (0,0))) (hn:Qx P t=some cv.cells.size)
 (hle:off+cv.cells.size<=c.size) (h1:∀ u∈cv.cells.toList,u.oneCell' = true):
 (Instr.storeAt t (.pointer (some ⟨b,off,none⟩)) cv).run P w = .ok () (w.setRow b (c.toList.take off++cv.cells.toList++c.toList.drop (off+cv.cells.toList.length)).toArray):=by
 have:=run_storeCells_at (P:=P) b off t' cv.cells.toList 0 c w hg (by simpa using hle) h1;simp only[Nat.add_zero] at this;simp only[Instr.storeAt,Instr.sureAddr,Sem.run_bind,Sem.run_pure,Result.andThen_ok,storeVar,QK hn];rw[if_neg (by simp)];exact this
theorem Qkw {t:TypeId} {id:Id} {off:Nat} {t':TypeId} {cs:List V} {v:V} {cp cv:Value} (h:Qk E σ) (hm:(id,.cells t' cs)∈σ) (hp:Rep E (.ptr id off) cp) (hv:Rep E v cv)
 (hn:Qx P t=some v.cells.length) (hw:v.wf=true) (hle:off+v.cells.length<=cs.length):
 ∃ w',(Instr.storeAt t cp cv).run P E.w = .ok () w'/\Qk { E with w:=w' } (σ.put id (.cells t' (setL cs off v.cells)))/\Grow E σ { E with w:=w' } (σ.put id (.cells t' (setL cs off v.cells))):=by
 obtain⟨b,e,rfl⟩:=VH hp;obtain⟨b',c,e',hg,hr,hs,hI⟩:=h.blk _ _ hm;rw[e] at e';cases e';have hcs:=hv.cells hw;have hlen:cv.cells.toList.length=v.cells.length:=hcs.1.length;have hsz:cv.cells.size=v.cells.length:=by simpa using hlen
 have hcl:c.size=cs.length:=by simpa using hr.length
 refine⟨_,jF hg (by rw[hsz];exact hn) (by omega) (hcs.1.scalars hcs.2),?_⟩;have hg':=setRow_heap E.w b c (c.toList.take off++cv.cells.toList++c.toList.drop (off+cv.cells.toList.length)).toArray t' (0,0) hg;refine UI h hm (b:=b) (by rw[e];rfl) _ (setRow_size _ _ _) rfl rfl rfl (fun i hi=>Vj _ _ _ _ hi) (fun o hi=>absurd hi (hI o)) fun hle'=>?_;refine⟨b,_,e,hg',?_,fun x hx=>?_,hI⟩
 ·have:=(hr.setL hcs.1 off).mono hle';simpa using this
 ·rcases jD hx with hx|hx
  ·exact hs x hx
  ·exact hcs.2 x hx
theorem flat_set {es:List V} {s i:Nat} {e e':V} (hu:∀ e∈es,e.cells.length=s) (hi:es[i]? = some e) (he:e'.cells.length=s):
 (es.set i e').flatMap V.cells=setL (es.flatMap V.cells) (i*s) e'.cells:=by
 induction es generalizing i with
 | nil=>simp at hi
 | cons x es ih=>
   have hx:=hu x (by simp);have hes:∀ e∈es,e.cells.length=s:=fun e he=>hu e (by simp[he]);cases i with
   | zero=>
     simp only[List.set_cons_zero,List.flatMap_cons,Nat.zero_mul,setL,List.take_zero,List.nil_append,Nat.zero_add];rw[he,List.drop_append,<- hx];simp
   | succ i=>
     simp only[List.getElem?_cons_succ] at hi;simp only[List.set_cons_succ,List.flatMap_cons];rw[ih hes hi];unfold setL;rw[show (i+1)*s=x.cells.length+i*s by rw[hx,Nat.succ_mul,Nat.add_comm]];rw[List.take_append,List.drop_append];rw[show x.cells.take (x.cells.length+i*s)=x.cells from List.take_of_length_le (by omega)];rw[show x.cells.drop (x.cells.length+i*s+e'.cells.length)=[] from List.drop_eq_nil_of_le (by omega)];rw[Nat.add_sub_cancel_left,show x.cells.length+i*s+e'.cells.length - x.cells.length=i*s+e'.cells.length by omega];simp[List.append_assoc]
theorem setL_setL (cs us:List V) (o off:Nat) (n:Nat) (h1:o+n<=cs.length) (h2:off+us.length<=n):
 setL cs o (setL ((cs.drop o).take n) off us)=setL cs (o+off) us:=by
 unfold setL;apply List.ext_getElem?;intro k;simp only[List.getElem?_append,List.getElem?_take,List.getElem?_drop,List.length_append,List.length_take,List.length_drop]
 repeat' split
 all_goals first
  | rfl
  | omega
  | (congr 1;omega)
theorem QPq {t:TypeId} {id:Id} {s i off ver:Nat} {t':TypeId} {es:List V} {v e:V} {cp cv:Value} (h:Qk E σ) (hm:(id,.vec t' s es ver true)∈σ) (hp:Rep E (.eptr id ver s i off) cp) (hv:Rep E v cv)
 (hi:es[i]? = some e) (hn:Qx P t=some v.cells.length) (hw:v.wf=true) (hle:off+v.cells.length<=e.cells.length) (e':V) (he':e' = if off=0/\v.cells.length=e.cells.length then v else .agg (setL e.cells off v.cells)):
 ∃ w',(Instr.storeAt t cp cv).run P E.w = .ok () w'/\Qk { E with w:=w' } (σ.put id (.vec t' s (es.set i e') ver true))/\Grow E σ { E with w:=w' } (σ.put id (.vec t' s (es.set i e') ver true)):=by
 obtain⟨b,rfl,hrd,hblk⟩:=(h.blk _ _ hm).readsE hi hp;obtain⟨hv',xs,eι,hown,hr,hs,h0,hI⟩:=h.blk _ _ hm;have hu:∀ e∈es,e.cells.length=s:=fun e he=>(hs e he).1;have hsE:=hu e (List.mem_of_getElem? hi);have hilt:i<es.length:=(List.getElem?_eq_some_iff.1 hi).1;have hcs:=hv.cells hw;have hlen:cv.cells.toList.length=v.cells.length:=hcs.1.length;have hsz:cv.cells.size=v.cells.length:=by simpa using hlen
 have hce:e'.cells=setL e.cells off v.cells:=by
  subst he';split
  ·rename_i hc;unfold setL;rw[hc.1,List.take_zero,List.nil_append,Nat.zero_add,hc.2,List.drop_length,List.append_nil]
  ·rfl
 have hel:e'.cells.length=s:=by rw[hce,Ui hle,hsE]
 have heok:e'.ok:=fun c hc=>by
  rw[hce] at hc;rcases jD hc with hc|hc
  ·exact (hs e (List.mem_of_getElem? hi)).2 c hc
  ·exact hcs.2 c hc
 have hbI:∀ o,¬ E.I b o:=fun o ho=>by
  rw[eι] at hblk;have:=(hI b hblk o ho).1;cases this
 rcases hown.2 with⟨a,_,hn0⟩|⟨g,cap,cur,hb0,e1,hg,hcap,hmax,hcsz,htk⟩
 ·omega
 ·subst e1;rw[eι] at hblk;have hgb:g=b:=by simp[Loc.block,Awp.hblk] at hblk;exact hblk.2
  subst hgb;have hxl:xs.length=es.length*s:=hown.1;have hbound:i*s+off+v.cells.length<=es.length*s:=by
   have h1:(i+1)*s<=es.length*s:=Nat.mul_le_mul_right _ hilt;rw[Nat.succ_mul] at h1;omega
  have hcapmul:es.length*s<=cap*s:=Nat.mul_le_mul_right _ hcap;refine⟨_,jF hg (by rw[hsz];exact hn) (by omega) (hcs.1.scalars hcs.2),?_⟩;have hg':=setRow_heap E.w g cur (cur.toList.take (i*s+off)++cv.cells.toList++cur.toList.drop (i*s+off+cv.cells.toList.length)).toArray t' (0,0) hg;refine UI h hm (b:=g) (by rw[eι];simp[Loc.block,Awp.hblk];omega) _ (setRow_size _ _ _) rfl rfl rfl (fun k hk=>Vj _ _ _ _ hk) (fun o ho=>absurd ho (hbI o)) fun hle'=>?_;have hflat:(es.set i e').flatMap V.cells=setL (es.flatMap V.cells) (i*s+off) v.cells:=by
   rw[flat_set hu hi hel,hce];have:=setL_setL (es.flatMap V.cells) v.cells (i*s) off s (Vq hu hi).2 (by omega);rw[(Vq hu hi).1] at this;exact this
  refine⟨.slice (some ⟨g,0,none⟩) es.length cap,xs.take (i*s+off)++cv.cells.toList++xs.drop (i*s+off+cv.cells.toList.length),eι,⟨?_,.inr ⟨g,cap,_,hb0,by simp,hg',by simpa using hcap,hmax,?_,?_⟩⟩,?_,?_,h0,?_⟩
  ·simp[hsz,hxl];omega
  ·simp[hsz];omega
  ·rw[<- htk];simp only[List.length_set];apply List.ext_getElem?;intro k;simp only[List.getElem?_append,List.getElem?_take,List.getElem?_drop,List.length_append,List.length_take,hlen,Array.length_toList,hcsz]
   repeat' split
   all_goals first
    | rfl
    | omega
    | (congr 1;omega)
    | (rw[List.getElem?_eq_none];simp;omega)
    | (symm;rw[List.getElem?_eq_none];simp;omega)
  ·rw[hflat];exact (hr.setL hcs.1 _).mono hle'
  ·intro x hx;rcases List.mem_or_eq_of_mem_set hx with hx|rfl
   ·exact hs x hx
   ·exact⟨hel,heok⟩
  ·intro b' hb' o ho;have:=hI b' hb' o ho;exact⟨this.1,by rw[List.length_set];exact this.2⟩
theorem QUq {t:TypeId} {off:Nat} {e v:V} {b o:Nat} (h:Reads E b o e.cells) (hp:(if off=0/\fitV P t e=true then some e else Xh P t e.cells off)=some v):∃ cv,(Instr.loadAt t (.pointer (some ⟨b,o+off,none⟩))).run P E.w = .ok cv E.w/\Rep E v cv:=by
 split at hp
 ·rename_i hc;cases hp;rw[hc.1];exact Jz h (yd hc.2)
 ·exact Jz h hp
theorem OpOk.store {o:Oper} {v:V} {u:Upd} (h:QN P lk σ.get j o.op=some (v,u)):OpOk P o lk σ j v (u.app σ j) u.Wf:=fun E ρ hs hj hρ=>by
 obtain⟨dst,op,type,pos,after,guard⟩:=o;simp only at h hρ;unfold QN at h;split at h
 ·rename_i t x;obtain⟨p,hp,h⟩:=Option.bind_eq_some_iff.1 h;have hr:=hρ x (by simp[Op.operands]) _ hp;split at h
  ·obtain⟨k,hk,h⟩:=Option.bind_eq_some_iff.1 h;split at h
   ·obtain⟨v',hv,e⟩:=Option.map_eq_some_iff.1 h;cases e;obtain⟨b,e,hrd⟩:=(hs.blk _ _ (Qa.get_mem hk)).reads hr;obtain⟨cv,h1,h2⟩:=Jz (P:=P) hrd hv;exact⟨E,cv,.inl (by simp only[execOp,e,Sem.run_bind,h1];rfl),h2,hs,Grow.refl _ _,fun _ _ h=>h⟩
   ·cases h
  ·obtain⟨k,hk,h⟩:=Option.bind_eq_some_iff.1 h;split at h
   ·split at h
    ·rename_i hc;obtain⟨rfl,rfl⟩:=hc;obtain⟨e,he,h⟩:=Option.bind_eq_some_iff.1 h;obtain⟨v',hv,e'⟩:=Option.map_eq_some_iff.1 h;cases e';obtain⟨b,e1,hrd,_⟩:=(hs.blk _ _ (Qa.get_mem hk)).readsE he hr;obtain⟨cv,h1,h2⟩:=QUq (P:=P) hrd hv;exact⟨E,cv,.inl (by simp only[execOp,e1,Sem.run_bind,h1];rfl),h2,hs,Grow.refl _ _,fun _ _ h=>h⟩
    ·cases h
   ·cases h
  ·cases h
 ·rename_i t x y;obtain⟨p,hp,h⟩:=Option.bind_eq_some_iff.1 h;obtain⟨w,hw,h⟩:=Option.bind_eq_some_iff.1 h;have hr:=hρ x (by simp[Op.operands]) _ hp;have hr':=hρ y (by simp[Op.operands]) _ hw;split at h
  ·obtain⟨k,hk,h⟩:=Option.bind_eq_some_iff.1 h;split at h
   ·split at h
    ·rename_i hc;cases h;obtain⟨w',h1,h2,h3⟩:=Qkw (P:=P) hs (Qa.get_mem hk) hr hr' hc.1 hc.2.1 hc.2.2;exact⟨_,undef,.inr ⟨by simp only[execOp,Sem.run_bind,h1];rfl,rfl⟩,.any _,h2,h3,fun _ _ h=>h⟩
    ·cases h
   ·cases h
  ·obtain⟨k,hk,h⟩:=Option.bind_eq_some_iff.1 h;split at h
   ·split at h
    ·rename_i hc;obtain⟨rfl,rfl⟩:=hc;obtain⟨e,he,h⟩:=Option.bind_eq_some_iff.1 h;split at h
     ·rename_i hc;cases h;obtain⟨w',h1,h2,h3⟩:=QPq (P:=P) hs (Qa.get_mem hk) hr hr' he hc.1 hc.2.1 hc.2.2 _ rfl;exact⟨_,undef,.inr ⟨by simp only[execOp,Sem.run_bind,h1];rfl,rfl⟩,.any _,h2,h3,fun _ _ h=>h⟩
     ·cases h
    ·cases h
   ·cases h
  ·cases h
 ·rename_i t;obtain⟨z,hz,e⟩:=Option.map_eq_some_iff.1 h;cases e;obtain⟨cv,h1,h2,h3,h4⟩:=Jk hz E;have:=yl hs hj (t:=t) h4 h3;obtain⟨r,s,g,n⟩:=this;refine⟨_,_,.inl ?_,r,s,g,fun id hn=>n id (hn rfl)⟩;simp only[execOp,Instr.alloc,Sem.run_bind,h1,Result.andThen_ok,newVar,newRow];rfl
 ·rename_i t x;obtain⟨p,hp,h⟩:=Option.bind_eq_some_iff.1 h;have hr:=hρ x (by simp[Op.operands]) _ hp;split at h
  ·rename_i hw;cases h;have hc:=hr.cells hw;obtain⟨r,s,g,n⟩:=yl hs hj (t:=t) hc.1 hc.2;refine⟨_,_,.inl ?_,r,s,g,fun id hn=>n id (hn rfl)⟩;simp only[execOp,Instr.box,Sem.run_bind,newVar,newRow];rfl
  ·cases h
 ·cases h
end
end Go.Awp
