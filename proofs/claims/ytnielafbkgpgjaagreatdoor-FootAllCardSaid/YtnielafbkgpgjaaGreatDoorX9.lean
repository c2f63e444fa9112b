/- AWP, text 18: statements that draw their order: the order of the text serves all orders. -/
import Derived.Test.YtnielafbkgpgjaaGreatDoorX8
set_option linter.all false
set_option maxRecDepth 100000
set_option maxHeartbeats 8000000
namespace Go.Awp
open Go
structure MS where
 τ:Nat->Option V
 M:Id × Blk->Prop
structure D where
 want:Bool
 v:V
 ro:Qa
 wi:Qa
 wo:Qa
 j:Id
 nw:Bool
 pan:Option V:=none
def MS.app (s:MS) (dst:Option Tmp) (d:D):MS:=
 ⟨fun t=>if dst=some t then some d.v else s.τ t,fun x=>x∈d.wo∨(s.M x/\x.1∉Qa.keys d.wi)⟩
def lkF (C:Ctx) (τ:Nat->Option V):Operand->Option V
 | .tmp t=>τ t
 | .const v=>ofV v
 | .global g=>(C.G.lookup g).map .rptr
 | .func f=>some (.func (.func f) [] [])
def JH (ops:Array Oper) (τ:Nat->Option V) (o:Oper):Option Bool:=
 match o.guard with
 | none=>some true
 | some (j,want)=>match (ops[j]?).bind (·.dst) with
   | some t=>match τ t with
     | some (.bool b)=>some (b == want)
     | some (.tup [])=>some false
     | _=>none
   | none=>none
def LT (C:Ctx) (o:Oper) (lk:Operand->Option V) (σi:Qa) (j:Id) (lv:Nat) (v:V) (σo:Qa) (nw:Bool) (pan:Option V:=none):Prop:=
 ∀ E a K Q,Qk E σi->Xu C E->(nw=true->E.ι j = .unborn)->(∀ x∈o.op.operands,∀ u,lk x=some u->Rep E u (a.eval x))->
  (∀ p E' cv,pan=some p->Rep E' p cv->Qk E' σo->Grow E σi E' σo->(∀ id:Id,id.1<=lv->(nw=true->id≠j)->E.ι id = .unborn->E'.ι id = .unborn)->Q (.panic [{ v:=cv,recovered:=false }]) a E'.w)->
  (pan=none->∀ E' cv,Rep E' v cv->Qk E' σo->Grow E σi E' σo->(∀ id:Id,id.1<=lv->(nw=true->id≠j)->E.ι id = .unborn->E'.ι id = .unborn)->K (a.put o.dst cv) E'.w)->o.wp C.P a E.w K Q
structure En (C:Ctx) (ops:Array Oper) (N lv:Nat) (o:Oper) (d:D) (s:MS):Prop where
 dst:WW N o.dst=true
 guard:JH ops s.τ o=some d.want
 lt:d.want=true->LT C o (lkF C s.τ) (d.ro++d.wi) d.j lv d.v (d.ro++d.wo) d.nw d.pan
 no:d.want=false->d.v = .tup []/\d.ro=[]/\d.wi=[]/\d.wo=[]/\d.nw=false/\d.pan=none
 mem:∀ x,x∈d.ro++d.wi->s.M x
 nodup:(Qa.keys (d.ro++d.wi)).Nodup
structure Indep (ops:Array Oper) (o o':Oper) (d d':D):Prop where
 apart:o.apart ops o' = true
 op:(∀ cs b,o.op≠.select cs b)/\(∀ cs b,o'.op≠.select cs b)
 w1:∀ id,(id∈Qa.keys d.wi∨id∈Qa.keys d.wo)->id∉Qa.keys d'.ro/\id∉Qa.keys d'.wi/\id∉Qa.keys d'.wo
 w2:∀ id,(id∈Qa.keys d'.wi∨id∈Qa.keys d'.wo)->id∉Qa.keys d.ro
section
variable {C:Ctx} {ops:Array Oper} {N lv:Nat}
theorem LT.congr {o:Oper} {lk lk':Operand->Option V} {σi σo:Qa} {j:Id} {v:V} {nw:Bool} {pan:Option V} (h:LT C o lk σi j lv v σo nw pan) (he:∀ x∈o.op.operands,lk' x=lk x):LT C o lk' σi j lv v σo nw pan:=
 fun E a K Q h1 h2 h3 h4 h5 h6=>h E a K Q h1 h2 h3 (fun x hx u hu=>h4 x hx u (by rw[he x hx];exact hu)) h5 h6
theorem lkF_app {o o':Oper} {s:MS} {d:D} (h:∀ t,o.dst=some t->t∉o'.looksAt ops):∀ x∈o'.op.operands,lkF C (s.app o.dst d).τ x=lkF C s.τ x:=by
 intro x hx;cases x with
 | tmp t=>
   simp only[lkF,MS.app];rw[if_neg];intro e;exact h t e (List.mem_append_left _ (List.mem_filterMap.2 ⟨.tmp t,by simpa using hx,rfl⟩))
 | _=>rfl
theorem ve {o o':Oper} {s:MS} {d:D} (h:∀ t,o.dst=some t->t∉o'.looksAt ops):JH ops (s.app o.dst d).τ o' = JH ops s.τ o':=by
 unfold JH;cases hg:o'.guard with
 | none=>rfl
 | some gw=>
   obtain⟨g,want⟩:=gw;simp only;cases ht:(ops[g]?).bind (·.dst) with
   | none=>rfl
   | some t=>
     have:(s.app o.dst d).τ t=s.τ t:=by
      simp only[MS.app];rw[if_neg];intro e;exact h t e (List.mem_append_right _ (by simp[hg,ht]))
     simp only[this]
theorem En.swap {o o':Oper} {d d':D} {s:MS} (h:En C ops N lv o d s) (h':En C ops N lv o' d' (s.app o.dst d)) (hi:Indep ops o o' d d'):
 En C ops N lv o' d' s/\En C ops N lv o d (s.app o'.dst d')/\(s.app o.dst d).app o'.dst d' = (s.app o'.dst d').app o.dst d:=by
 obtain⟨a1,a2,a3⟩:=Oper.apart_spec hi.apart;have km:∀ {σ:Qa} {x:Id × Blk},x∈σ->x.1∈Qa.keys σ:=fun hx=>List.mem_map.2 ⟨_,hx,rfl⟩;have kapp:∀ {σ σ':Qa} {id:Id},id∈Qa.keys (σ++σ')↔id∈Qa.keys σ∨id∈Qa.keys σ':=fun {σ σ' id}=>by
  unfold Qa.keys;rw[List.map_append,List.mem_append]
 refine⟨⟨h'.dst,by rw[<- ve (s:=s) (d:=d) a1];exact h'.guard,fun hw=>(h'.lt hw).congr fun x hx=>(lkF_app a1 x hx).symm,h'.no,fun x hx=>?_,h'.nodup⟩,
  ⟨h.dst,by rw[ve (s:=s) (d:=d') a3];exact h.guard,fun hw=>(h.lt hw).congr fun x hx=>lkF_app a3 x hx,h.no,fun x hx=>?_,h.nodup⟩,?_⟩
 ·have hm:=h'.mem x hx;simp only[MS.app] at hm;rcases hm with hm|hm
  ·have:=hi.w1 x.1 (.inr (km hm));rcases List.mem_append.1 hx with hx|hx
   ·exact absurd (km hx) this.1
   ·exact absurd (km hx) this.2.1
  ·exact hm.1
 ·refine .inr ⟨h.mem x hx,fun hk=>?_⟩;rcases List.mem_append.1 hx with hx|hx
  ·exact hi.w2 x.1 (.inl hk) (km hx)
  ·exact (hi.w1 x.1 (.inl (km hx))).2.1 hk
 ·simp only[MS.app,MS.mk.injEq];constructor
  ·funext t;by_cases e1:o.dst=some t
   ·have:o'.dst≠some t:=fun e=>a2 t e1 e;simp[e1,this]
   ·simp[e1]
  ·funext x;apply propext;constructor
   ·rintro (hx|⟨hx|⟨hx,h1⟩,h2⟩)
    ·exact .inr ⟨.inl hx,fun hk=>(hi.w1 x.1 (.inl hk)).2.2 (km hx)⟩
    ·exact .inl hx
    ·exact .inr ⟨.inr ⟨hx,h2⟩,h1⟩
   ·rintro (hx|⟨hx|⟨hx,h1⟩,h2⟩)
    ·exact .inr ⟨.inl hx,fun hk=>(hi.w1 x.1 (.inr (km hx))).2.1 hk⟩
    ·exact .inl hx
    ·exact .inr ⟨.inr ⟨hx,h2⟩,h1⟩
def EnL (C:Ctx) (ops:Array Oper) (N lv:Nat) (D:Nat->D):List Nat->MS->Prop
 | [],_=>True
 | i::l,s=>∃ o,ops[i]? = some o/\En C ops N lv o (D i) s/\EnL C ops N lv D l (s.app o.dst (D i))
def appL (ops:Array Oper) (D:Nat->D):List Nat->MS->MS
 | [],s=>s
 | i::l,s=>appL ops D l (s.app ((ops[i]?).bind (·.dst)) (D i))
theorem EnL.pull {D:Nat->D} {i:Nat} {o:Oper} (ho:ops[i]? = some o):∀ (l1 l2:List Nat) (s:MS),(∀ k∈l1,∀ ok,ops[k]? = some ok->Indep ops ok o (D k) (D i))->EnL C ops N lv D (l1++i::l2) s->
 En C ops N lv o (D i) s/\EnL C ops N lv D (l1++l2) (s.app o.dst (D i))/\appL ops D (l1++i::l2) s=appL ops D (l1++l2) (s.app o.dst (D i))
 | [],l2,s,_,h=>by
   obtain⟨o',ho',h1,h2⟩:=h;rw[ho] at ho';cases ho';exact⟨h1,h2,by simp[appL,ho]⟩
 | k::l1,l2,s,hind,h=>by
   obtain⟨ok,hok,h1,h2⟩:=h;obtain⟨g1,g2,g3⟩:=EnL.pull ho l1 l2 (s.app ok.dst (D k)) (fun k' hk'=>hind k' (by simp[hk'])) h2;obtain⟨s1,s2,s3⟩:=h1.swap g1 (hind k (by simp) ok hok);refine⟨s1,⟨ok,hok,s2,by rw[<- s3];exact g2⟩,?_⟩;simp only[List.cons_append,appL,hok,Option.bind_some];rw[g3,s3]
structure RelM (C:Ctx) (N lv:Nat) (s:MS) (E:Amb) (a:Act):Prop where
 tmp:∀ t v,s.τ t=some v->Rep E v (a.tmps.getD t undef)
 size:a.tmps.size=N
 store:∃ σ,Qk E σ/\∀ x,x∈σ↔s.M x
 glob:Xu C E
theorem lkF_rep {s:MS} {E:Amb} {a:Act} (h:RelM C N lv s E a) {x:Operand} {v:V} (hv:lkF C s.τ x=some v):Rep E v (a.eval x):=by
 cases x with
 | tmp t=>exact h.tmp t v hv
 | const c=>exact (qR hv).1
 | global g=>
   obtain⟨u,hu,rfl⟩:=Option.map_eq_some_iff.1 hv;exact (h.glob g u hu).1
 | func f=>cases hv;exact .func .nil .nil
theorem ug {s:MS} {E:Amb} {a:Act} (hr:RelM C N lv s E a) {o:Oper} {b:Bool} (h:JH ops s.τ o=some b):Region.wanted o (yielded ops a.tmps)=b:=by
 unfold JH at h;unfold Region.wanted;split at h
 ·rename_i e;cases h;rw[e]
 ·rename_i j want e;rw[e];split at h
  ·rename_i t ht;split at h
   ·rename_i bb hl;cases h;have hrep:=hr.tmp t _ hl;have:a.tmps.getD t undef = .bool bb:=by revert hrep;generalize a.tmps.getD t undef=y;intro hy;cases hy;rfl
    have hy:yielded ops a.tmps j=some bb:=by
     unfold yielded;rw[ht];rw[Array.getD_eq_getD_getElem?] at this;simp only[Option.bind_some];cases h3:a.tmps[t]? with
     | none=>rw[h3] at this;simp[undef] at this
     | some y=>rw[h3] at this;simp at this;rw[this]
    show (yielded ops a.tmps j == some want)=_;rw[hy];rfl
   ·rename_i hl;cases h;have hrep:=hr.tmp t _ hl;have:a.tmps.getD t undef = .tuple #[]:=by
     revert hrep;generalize a.tmps.getD t undef=y;intro hy;cases hy with|tup h=>cases h;rfl
    have hy:yielded ops a.tmps j=none:=by
     unfold yielded;rw[ht];rw[Array.getD_eq_getD_getElem?] at this;simp only[Option.bind_some];cases h3:a.tmps[t]? with
     | none=>rfl
     | some y=>rw[h3] at this;simp at this;rw[this]
    show (yielded ops a.tmps j == some want)=_;rw[hy];rfl
   ·cases h
  ·cases h
theorem Qxz {σ:Qa} (hn:σ.keys.Nodup) {x y:Id × Blk} (hx:x∈σ) (hy:y∈σ) (e:x.1=y.1):x=y:=by
 induction σ with
 | nil=>cases hx
 | cons z r ih=>
   have hnd:=List.nodup_cons.1 hn;rcases List.mem_cons.1 hx with e1|hx'<;>rcases List.mem_cons.1 hy with e2|hy'
   ·rw[e1,e2]
   ·subst e1;exact absurd (List.mem_map.2 ⟨_,hy',e.symm⟩) hnd.1
   ·subst e2;exact absurd (List.mem_map.2 ⟨_,hx',e⟩) hnd.1
   ·exact ih hnd.2 hx' hy'
theorem Grow.congr {E E':Amb} {σ σ1 σ' σ1':Qa} (h:Grow E σ E' σ') (h1:∀ id,id∈σ1.keys↔id∈σ.keys) (h2:∀ id,id∈σ1'.keys↔id∈σ'.keys):Grow E σ1 E' σ1':=by
 have o1:∀ b,Je E σ1 b↔Je E σ b:=fun b=>⟨fun ⟨id,hi,hb⟩=>⟨id,(h1 id).1 hi,hb⟩,fun ⟨id,hi,hb⟩=>⟨id,(h1 id).2 hi,hb⟩⟩
 have o2:∀ b,Je E' σ1' b->Je E' σ' b:=fun b ⟨id,hi,hb⟩=>⟨id,(h2 id).1 hi,hb⟩
 exact⟨h.le,fun b hb ho=>h.kept b hb fun q=>ho ((o1 b).2 q),fun b o hi=>(h.inew b o hi).imp (fun h=>h) fun q=>q.imp (fun h=>h) (o1 b).2,fun id hn=>h.loc id fun q=>hn ((h1 id).2 q),
  fun id hi=>(h.keys id ((h2 id).1 hi)).imp (h1 id).2 fun h=>h,fun b ho=>(h.own b (o2 b ho)).imp (fun h=>h) (o1 b).2,h.os,h.tape,h.output,h.size⟩
theorem XG {σ σ1:Qa} (h:∀ x,x∈σ1↔x∈σ) (id:Id):id∈σ1.keys↔id∈σ.keys:=by
 unfold Qa.keys;constructor
 ·intro hi;obtain⟨x,hx,e⟩:=List.mem_map.1 hi;exact List.mem_map.2 ⟨x,(h x).1 hx,e⟩
 ·intro hi;obtain⟨x,hx,e⟩:=List.mem_map.1 hi;exact List.mem_map.2 ⟨x,(h x).2 hx,e⟩
theorem RelM.step {o:Oper} {d:D} {s:MS} {E:Amb} {a:Act} {K:Act->World->Prop} {Q:Exit->Act->World->Prop} {i:Nat} (ho:ops[i]? = some o) (hr:RelM C N lv s E a) (he:En C ops N lv o d s) (hj:d.want=true->d.nw=true->E.ι d.j = .unborn)
 (hp:∀ p E' cv,d.pan=some p->Rep E' p cv->RelM C N lv { s with M:=(s.app o.dst d).M } E' a->(∀ σ σ',(∀ x,x∈σ↔s.M x)->(∀ x,x∈σ'↔(s.app o.dst d).M x)->Grow E σ E' σ')->
   (∀ id:Id,id.1<=lv->(d.nw=true->id≠d.j)->E.ι id = .unborn->E'.ι id = .unborn)->Q (.panic [{ v:=cv,recovered:=false }]) a E'.w)
 (hk:d.pan=none->∀ E' a',RelM C N lv (s.app o.dst d) E' a'->(∀ σ σ',(∀ x,x∈σ↔s.M x)->(∀ x,x∈σ'↔(s.app o.dst d).M x)->Grow E σ E' σ')->a'.defers=a.defers->
   (∀ id:Id,id.1<=lv->(d.nw=true->id≠d.j)->E.ι id = .unborn->E'.ι id = .unborn)->K a' E'.w):wpOp C.P ops Q i K a E.w:=by
 unfold wpOp;simp only[ho];obtain⟨σ,hst,hmem⟩:=hr.store;have put:∀ {E':Amb} {cv:Value},E.Le E'->Rep E' d.v cv->(∃ σ,Qk E' σ/\∀ x,x∈σ↔(s.app o.dst d).M x)->RelM C N lv (s.app o.dst d) E' (a.put o.dst cv):=fun {E' cv} hle hv hstore=>by
  refine⟨fun t v hv'=>?_,?_,hstore,hr.glob.mono hle⟩
  ·simp only[MS.app] at hv';split at hv'
   ·rename_i e;cases hv';have ht:t<N:=by have:=he.dst;rw[e] at this;simpa[WW] using this
    rw[e];simp only[Act.put];rw[Array.getD_eq_getD_getElem?,Array.getElem?_setIfInBounds_self_of_lt (by rw[hr.size];exact ht)];exact hv
   ·rename_i e;have:(a.put o.dst cv).tmps.getD t undef=a.tmps.getD t undef:=by
     cases hd:o.dst with
     | none=>rfl
     | some u=>
       have hne:u≠t:=fun e'=>e (by rw[hd,e']);simp only[Act.put];rw[Array.getD_eq_getD_getElem?,Array.getElem?_setIfInBounds_ne hne,<- Array.getD_eq_getD_getElem?]
    rw[this];exact (hr.tmp t v hv').mono hle
  ·cases o.dst<;>simp[Act.put,hr.size]
 rw[ug hr he.guard];cases hw:d.want with
 | false=>
   rw[if_neg (by simp)];obtain⟨n1,n2,n3,n4,n5,n6⟩:=he.no hw;have hM:(s.app o.dst d).M=s.M:=by funext x;simp[MS.app,n3,n4,Qa.keys]
   refine hk n6 E _ (put (Amb.Le.refl E) (by rw[n1];exact .tup .nil) ⟨σ,hst,by rw[hM];exact hmem⟩) (fun σ1 σ2 h1 h2=>(Grow.refl E σ).congr (XG fun x=>(h1 x).trans (hmem x).symm) (XG fun x=>(h2 x).trans (by rw[hM];exact (hmem x).symm))) (by cases o.dst<;>rfl) fun _ _ _ h=>h
 | true=>
   rw[if_pos rfl];left;have hsub:∀ x,x∈d.ro++d.wi->x∈σ:=fun x hx=>(hmem x).2 (he.mem x hx);have key:∀ σ1:Qa,(∀ x,x∈σ1↔s.M x)->∀ x,x∈(d.ro++d.wo)++σ1.less (d.ro++d.wi)↔(s.app o.dst d).M x:=fun σ1 h1 x=>by
    have kapp:∀ {σ σ':Qa} {id:Id},id∈Qa.keys (σ++σ')↔id∈Qa.keys σ∨id∈Qa.keys σ':=fun {σ σ' id}=>by
     unfold Qa.keys;rw[List.map_append,List.mem_append]
    rw[List.mem_append,List.mem_append,Qa.WV,kapp,h1];simp only[MS.app];constructor
    ·rintro ((hx|hx)|⟨hx,h2⟩)
     ·refine .inr ⟨he.mem x (List.mem_append_left _ hx),fun hk=>?_⟩;have hnd:=he.nodup;unfold Qa.keys at hnd;rw[List.map_append,List.nodup_append] at hnd;exact hnd.2.2 x.1 (List.mem_map.2 ⟨_,hx,rfl⟩) x.1 hk rfl
     ·exact .inl hx
     ·exact .inr ⟨hx,fun hk=>h2 (.inr hk)⟩
    ·rintro (hx|⟨hx,h2⟩)
     ·exact .inl (.inr hx)
     ·by_cases hr':x.1∈Qa.keys d.ro
      ·obtain⟨y,hy,e⟩:=List.mem_map.1 hr';have hyσ:=hsub y (List.mem_append_left _ hy);have hxσ:=(hmem x).2 hx;have:y=x:=Qxz hst.nodup hyσ hxσ e;exact .inl (.inl (this▸hy))
      ·exact .inr ⟨hx,fun h=>h.elim hr' h2⟩
   refine he.lt hw E a K Q (hst.part hsub he.nodup) hr.glob (hj hw) (fun x _ u hu=>lkF_rep hr hu) ?_ ?_
   ·intro p E' cv hpan hv hs' hg hb;obtain⟨f1,f2⟩:=frame hst hsub (fun x hx=>(Qa.WV.1 hx).1) (fun id hi=>by
     obtain⟨x,hx,rfl⟩:=List.mem_map.1 hi;exact (Qa.WV.1 hx).2) (Qa.Yp hst.nodup) hs' hg
    have hm':=key σ hmem;exact hp p E' cv hpan hv ⟨fun t v hv'=>(hr.tmp t v hv').mono f2.le,hr.size,⟨_,f1,hm'⟩,hr.glob.mono f2.le⟩ (fun σ1 σ2 h1 h2=>f2.congr (XG fun x=>(h1 x).trans (hmem x).symm) (XG fun x=>(h2 x).trans (hm' x).symm)) hb
   intro hpan E' cv hv hs' hg hb;obtain⟨f1,f2⟩:=frame hst hsub (fun x hx=>(Qa.WV.1 hx).1) (fun id hi=>by
    obtain⟨x,hx,rfl⟩:=List.mem_map.1 hi;exact (Qa.WV.1 hx).2) (Qa.Yp hst.nodup) hs' hg
   have hm':=key σ hmem;exact hk hpan E' _ (put f2.le hv ⟨_,f1,hm'⟩) (fun σ1 σ2 h1 h2=>f2.congr (XG fun x=>(h1 x).trans (hmem x).symm) (XG fun x=>(h2 x).trans (hm' x).symm)) (by cases o.dst<;>rfl) hb
def WQ:List Oper->List (List Nat)->List (List Nat)
 | [],acc=>acc
 | o::r,acc=>WQ r (acc++[o.after.toList.foldr (fun e l=>if Region.binds .any e=true then e.on::(acc.getD e.on []++l) else l) []])
def Qyq:Op->Bool
 | .select ..=>true
 | _=>false
def uF (ops:List Oper):Bool:=
 let P:=WQ ops []
 (ops.zipIdx.all fun (o,i)=>
   !Qyq o.op &&
   (o.after.all fun e=>!Region.binds .any e||decide (e.on<i)) &&
   ((P.getD i []).all fun a=>o.after.any fun e=>Region.binds .any e&&(a == e.on||(P.getD e.on []).contains a)) &&
   (ops.zipIdx.all fun (o',i')=>decide (i<=i')||(P.getD i []).contains i' || o'.apart ops.toArray o))
structure RegOk (ops:Array Oper) (P:Nat->List Nat):Prop where
 sel:∀ (i:Nat) o,ops[i]? = some o->∀ cs b,o.op≠.select cs b
 lex:∀ (i:Nat) o,ops[i]? = some o->∀ e∈o.after,Region.binds .any e=true->e.on<i
 closed:∀ (i:Nat) o,ops[i]? = some o->∀ a∈P i,∃ e∈o.after,Region.binds .any e=true/\(a=e.on∨a∈P e.on)
 apart:∀ (i i':Nat) o o',ops[i]? = some o->ops[i']? = some o'->i' < i->i'∉P i->o'.apart ops o=true
theorem VE {l:List Oper} (h:uF l=true):RegOk l.toArray (fun i=>(WQ l []).getD i []):=by
 unfold uF at h;simp only[List.all_eq_true,Bool.and_eq_true] at h;have get:∀ {i:Nat} {o:Oper},l.toArray[i]? = some o->(o,i)∈l.zipIdx:=fun {i o} hi=>by
  rw[List.getElem?_toArray] at hi;exact List.mem_zipIdx_iff_getElem?.2 hi
 refine⟨fun i o hi cs b e=>?_,fun i o hi e he hb=>?_,fun i o hi a ha=>?_,fun i i' o o' hi hi' hlt hn=>?_⟩
 ·have:=(h _ (get hi)).1.1.1;rw[e] at this;simp[Qyq] at this
 ·have:=(h _ (get hi)).1.1.2;have:=(Array.all_eq_true_iff_forall_mem.1 this) e he;simpa[hb] using this
 ·have:=(h _ (get hi)).1.2 a ha;obtain⟨e,he,hx⟩:=Array.any_eq_true'.1 this;simp only[Bool.and_eq_true,Bool.or_eq_true,beq_iff_eq,List.contains_iff_mem] at hx;exact⟨e,he,hx⟩
 ·have:=(h _ (get hi)).2 _ (get hi');simp only[Bool.or_eq_true,decide_eq_true_eq,List.contains_iff_mem] at this;rcases this with (h1|h1)|h1
  ·omega
  ·exact absurd h1 hn
  ·exact h1
structure vR (P:Nat->List Nat) (lv:Nat) (D:Nat->D) (n:Nat):Prop where
 w1:∀ i i',i' < i->i<n->i'∉P i->∀ id,(id∈Qa.keys (D i').wi∨id∈Qa.keys (D i').wo)->id∉Qa.keys (D i).ro/\id∉Qa.keys (D i).wi/\id∉Qa.keys (D i).wo
 w2:∀ i i',i' < i->i<n->i'∉P i->∀ id,(id∈Qa.keys (D i).wi∨id∈Qa.keys (D i).wo)->id∉Qa.keys (D i').ro
 j:∀ i i',i<n->i' < n->i≠i'->(D i).nw=true->(D i').nw=true->(D i).j≠(D i').j
 lv:∀ i,i<n->(D i).j.1=lv
theorem qc {P:Nat->List Nat} {D:Nat->D} (hR:RegOk ops P) (hD:vR P lv D ops.size) {Q:Exit->Act->World->Prop}:∀ (l:List Nat) (listed:Array Bool) (s:MS) (E:Amb) (a:Act),
 (∀ i,i∈l↔(i<ops.size/\listed.getD i true=false))->listed.size=ops.size->l.Pairwise (· < ·)->(∀ i,i<ops.size->listed.getD i true=true->∀ b∈P i,b<ops.size->listed.getD b true=true)->
 RelM C N lv s E a->EnL C ops N lv D l s->(∀ i∈l,(D i).want=true->(D i).nw=true->E.ι (D i).j = .unborn)->(∀ i∈l,(D i).pan=none)->
 (∀ E' a',RelM C N lv (appL ops D l s) E' a'->(∀ σ σ',(∀ x,x∈σ↔s.M x)->(∀ x,x∈σ'↔(appL ops D l s).M x)->Grow E σ E' σ')->a'.defers=a.defers->
   (∀ id:Id,id.1<=lv->(∀ i∈l,(D i).nw=true->id≠(D i).j)->E.ι id = .unborn->E'.ι id = .unborn)->Q .normal a' E'.w)->
 wpAny C.P .any ops Q l.length listed a E.w
 | [],listed,s,E,a,hl,hsz,hs,hc,hr,he,hf,hpn,hQ=>by
   refine⟨?_,hQ E a hr (fun σ σ' h1 h2=>(Grow.refl E σ).congr (fun _=>Iff.rfl) (XG fun x=>(h2 x).trans (h1 x).symm)) rfl fun _ _ _ h=>h⟩;rw[List.eq_nil_iff_forall_not_mem];intro j hj;obtain⟨h0,o,ho,_⟩:=mem_ready.1 hj;have:=(hl j).2 ⟨(Array.getElem?_eq_some_iff.1 ho).1,h0⟩;cases this
 | i0::l0,listed,s,E,a,hl,hsz,hs,hc,hr,he,hf,hpn,hQ=>by
   have hlt:∀ i∈i0::l0,i<ops.size:=fun i hi=>((hl i).1 hi).1;have hle:∀ i∈i0::l0,i0<=i:=fun i hi=>by
    rcases List.mem_cons.1 hi with rfl|hi
    ·exact Nat.le_refl _
    ·exact Nat.le_of_lt ((List.pairwise_cons.1 hs).1 i hi)
   refine⟨fun h0=>?_,fun i hi=>?_⟩
   ·exfalso;have hmem:i0∈Region.ready .any ops listed:=by
     have h1:=(hl i0).1 List.mem_cons_self;obtain⟨o,ho⟩:∃ o,ops[i0]? = some o:=⟨_,Array.getElem?_eq_getElem h1.1⟩
     refine mem_ready.2 ⟨h1.2,o,ho,fun e he' hb=>?_⟩;have hlex:=hR.lex i0 o ho e he' hb;have hes:e.on<listed.size:=by rw[hsz];omega
     cases hv:listed.getD e.on false with
     | true=>rfl
     | false=>
       have:listed.getD e.on true=false:=by simp[hes] at hv ⊢;exact hv
       have:=hle _ ((hl e.on).2 ⟨by omega,this⟩);omega
    rw[h0] at hmem;cases hmem
   ·obtain⟨hun,o,ho,hall⟩:=mem_ready.1 hi;have hin:i<ops.size:=(Array.getElem?_eq_some_iff.1 ho).1;have hil:i∈i0::l0:=(hl i).2 ⟨hin,hun⟩;obtain⟨l1,l2,hsplit⟩:=List.append_of_mem hil;have hlisted:∀ b∈P i,b<ops.size->listed.getD b true=true:=fun b hb hbn=>by
     obtain⟨e,he',hbind,hx⟩:=hR.closed i o ho b hb;have hlex:=hR.lex i o ho e he' hbind;have h1:=hall e he' hbind;have h1':listed.getD e.on true=true:=by
      have hes:e.on<listed.size:=by rw[hsz];omega
      simp[hes] at h1 ⊢;exact h1
     rcases hx with rfl|hx
     ·exact h1'
     ·exact hc e.on (by omega) h1' b hx hbn
    have hsorted:(l1++i::l2).Pairwise (· < ·):=hsplit▸hs;have hind:∀ k∈l1,∀ ok,ops[k]? = some ok->Indep ops ok o (D k) (D i):=fun k hk ok hok=>by
     have hki:k<i:=(List.pairwise_append.1 hsorted).2.2 k hk i List.mem_cons_self;have hkl:k∈i0::l0:=by rw[hsplit];exact List.mem_append_left _ hk
     have hkun:=(hl k).1 hkl;have hnp:k∉P i:=fun hp=>by
      have:=hlisted k hp hkun.1;rw[hkun.2] at this;cases this
     exact⟨hR.apart i k o ok ho hok hki hnp,⟨hR.sel k ok hok,hR.sel i o ho⟩,hD.w1 i k hki hin hnp,hD.w2 i k hki hin hnp⟩
    rw[hsplit] at he hQ;obtain⟨g1,g2,g3⟩:=EnL.pull ho l1 l2 s hind he;have hlen:l0.length=(l1++l2).length:=by
     have:=congrArg List.length hsplit;simp at this ⊢;omega
    refine hr.step ho g1 (fun hw hnw=>hf i hil hw hnw) (fun p E' cv hp=>by rw[hpn i hil] at hp;cases hp) fun _ E' a' hr' hg' hd' hb'=>?_;rw[hlen];refine qc hR hD (l1++l2) (listed.setIfInBounds i true) (s.app o.dst (D i)) E' a' (fun k=>?_) (by simpa using hsz) ?_ (fun k hk hlk b hb hbn=>?_) hr' g2 (fun k hk hw hnw=>?_) (fun k hk=>hpn k (by rw[hsplit];rcases List.mem_append.1 hk with hk|hk<;>simp[hk])) ?_
    ·have hmem:k∈l1++l2↔(k∈i0::l0/\k≠i):=by
      rw[hsplit];constructor
      ·intro hk;refine⟨?_,fun e=>?_⟩
       ·rcases List.mem_append.1 hk with hk|hk
        ·exact List.mem_append_left _ hk
        ·exact List.mem_append_right _ (List.mem_cons_of_mem _ hk)
       ·subst e;have hp:=List.pairwise_append.1 hsorted;rcases List.mem_append.1 hk with hk|hk
        ·have:=hp.2.2 k hk k List.mem_cons_self;omega
        ·have:=(List.pairwise_cons.1 hp.2.1).1 k hk;omega
      ·rintro⟨hk,hne⟩;rcases List.mem_append.1 hk with hk|hk
       ·exact List.mem_append_left _ hk
       ·rcases List.mem_cons.1 hk with e|hk
        ·exact absurd e hne
        ·exact List.mem_append_right _ hk
     rw[hmem,hl];constructor
     ·rintro⟨⟨h1,h2⟩,h3⟩;exact⟨h1,by rw[getD_set_ne true (Ne.symm h3)];exact h2⟩
     ·rintro⟨h1,h2⟩;have hne:k≠i:=fun e=>by
       subst e;have:k<listed.size:=by rw[hsz];exact h1
       simp[this] at h2
      exact⟨⟨h1,by rw[getD_set_ne true (Ne.symm hne)] at h2;exact h2⟩,hne⟩
    ·have hp:=List.pairwise_append.1 hsorted;exact List.pairwise_append.2 ⟨hp.1,(List.pairwise_cons.1 hp.2.1).2,fun x hx y hy=>hp.2.2 x hx y (List.mem_cons_of_mem _ hy)⟩
    ·have up:∀ b,b<ops.size->listed.getD b true=true->(listed.setIfInBounds i true).getD b true=true:=fun b hbn h=>by
      by_cases e:i=b
      ·subst e;have:i<listed.size:=by rw[hsz];exact hbn
       simp[this]
      ·rw[getD_set_ne true e];exact h
     by_cases e:k=i
     ·subst e;exact up b hbn (hlisted b hb hbn)
     ·rw[getD_set_ne true (Ne.symm e)] at hlk;exact up b hbn (hc k hk hlk b hb hbn)
    ·have hkl:k∈i0::l0:=by
      rw[hsplit];rcases List.mem_append.1 hk with hk|hk
      ·exact List.mem_append_left _ hk
      ·exact List.mem_append_right _ (List.mem_cons_of_mem _ hk)
     have hne:k≠i:=fun e=>by
      subst e;have hp:=List.pairwise_append.1 hsorted;rcases List.mem_append.1 hk with hk|hk
      ·have:=hp.2.2 k hk k List.mem_cons_self;omega
      ·have:=(List.pairwise_cons.1 hp.2.1).1 k hk;omega
     refine hb' _ (Nat.le_of_eq (hD.lv k (hlt k hkl))) (fun hni=>?_) (hf k hkl hw hnw);exact hD.j k i (hlt k hkl) hin hne hnw hni
    ·intro E2 a2 hr2 hg2 hd2 hb2;obtain⟨σ1,hst1,hmem1⟩:=hr'.store;refine hQ E2 a2 (by rw[g3];exact hr2) (fun σ σ' h1 h2=>(hg' σ σ1 h1 hmem1).trans (hg2 σ1 σ' hmem1 (by rw[<- g3];exact h2))) (hd2.trans hd') fun id hi1 hne hu=>?_;refine hb2 id hi1 (fun k hk hnw=>hne k ?_ hnw) (hb' id hi1 (fun hnw=>hne i (by simp) hnw) hu);rcases List.mem_append.1 hk with hk|hk
     ·exact List.mem_append_left _ hk
     ·exact List.mem_append_right _ (List.mem_cons_of_mem _ hk)
termination_by l=>l.length
decreasing_by
 rename_i hsplit _ _ _ _ _ _ _ _ _ _ _ _ _;have:=congrArg List.length hsplit;simp at this ⊢;omega
theorem yk {P:Nat->List Nat} {D:Nat->D} (hR:RegOk ops P) (hD:vR P lv D ops.size) {pp:Nat} {v:V} (hpan:(D pp).pan=some v) (hself:pp∉P pp) (hpp:pp<ops.size)
 (hcl:∀ (i:Nat) o,ops[i]? = some o->pp∉P i->∀ e∈o.after,Region.binds .any e=true->pp∉P e.on/\e.on≠pp)
 (hoth:∀ i,i≠pp->(D i).wi=[]/\(D i).wo=[]/\(D i).nw=false/\(D i).pan=none)
 {Q:Exit->Act->World->Prop}:∀ (l:List Nat) (m:Nat) (listed:Array Bool) (s:MS) (E:Amb) (a:Act),
 (∀ i,i∈l↔(i<ops.size/\listed.getD i true=false/\pp∉P i))->listed.size=ops.size->l.Pairwise (· < ·)->(∀ i,i<ops.size->listed.getD i true=true->∀ b∈P i,b<ops.size->listed.getD b true=true)->
 listed.getD pp true=false->
 RelM C N lv s E a->EnL C ops N lv D l s->((D pp).want=true->(D pp).nw=true->E.ι (D pp).j = .unborn)->
 (∀ E' a' cv τ',Rep E' v cv->(∀ t,(∀ (i:Nat) o,ops[i]? = some o->o.dst≠some t)->τ' t=s.τ t)->RelM C N lv ⟨τ',fun x=>x∈(D pp).wo∨(s.M x/\x.1∉Qa.keys (D pp).wi)⟩ E' a'->(∀ σ σ',(∀ x,x∈σ↔s.M x)->(∀ x,x∈σ'↔(x∈(D pp).wo∨(s.M x/\x.1∉Qa.keys (D pp).wi)))->Grow E σ E' σ')->a'.defers=a.defers->
   (∀ id:Id,id.1<=lv->((D pp).nw=true->id≠(D pp).j)->E.ι id = .unborn->E'.ι id = .unborn)->Q (.panic [{ v:=cv,recovered:=false }]) a' E'.w)->
 wpAny C.P .any ops Q (l.length+m) listed a E.w
 | [],m,listed,s,E,a,hl,hsz,hs,hc,hlp,hr,he,hf,hQ=>by
   have:=(hl pp).2 ⟨hpp,hlp,hself⟩;cases this
 | i0::l0,m,listed,s,E,a,hl,hsz,hs,hc,hlp,hr,he,hf,hQ=>by
   have hlt:∀ i∈i0::l0,i<ops.size:=fun i hi=>((hl i).1 hi).1;have hle:∀ i∈i0::l0,i0<=i:=fun i hi=>by
    rcases List.mem_cons.1 hi with rfl|hi
    ·exact Nat.le_refl _
    ·exact Nat.le_of_lt ((List.pairwise_cons.1 hs).1 i hi)
   rw[show (i0::l0).length+m=(l0.length+m)+1 by simp;omega];refine⟨fun h0=>?_,fun i hi=>?_⟩
   ·exfalso;have hmem:i0∈Region.ready .any ops listed:=by
     have h1:=(hl i0).1 List.mem_cons_self;obtain⟨o,ho⟩:∃ o,ops[i0]? = some o:=⟨_,Array.getElem?_eq_getElem h1.1⟩
     refine mem_ready.2 ⟨h1.2.1,o,ho,fun e he' hb=>?_⟩;have hlex:=hR.lex i0 o ho e he' hb;have hes:e.on<listed.size:=by rw[hsz];omega
     cases hv:listed.getD e.on false with
     | true=>rfl
     | false=>
       have:listed.getD e.on true=false:=by simp[hes] at hv ⊢;exact hv
       have:=hle _ ((hl e.on).2 ⟨by omega,this,(hcl i0 o ho h1.2.2 e he' hb).1⟩);omega
    rw[h0] at hmem;cases hmem
   ·obtain⟨hun,o,ho,hall⟩:=mem_ready.1 hi;have hin:i<ops.size:=(Array.getElem?_eq_some_iff.1 ho).1;have hlisted:∀ b∈P i,b<ops.size->listed.getD b true=true:=fun b hb hbn=>by
     obtain⟨e,he',hbind,hx⟩:=hR.closed i o ho b hb;have hlex:=hR.lex i o ho e he' hbind;have h1:=hall e he' hbind;have h1':listed.getD e.on true=true:=by
      have hes:e.on<listed.size:=by rw[hsz];omega
      simp[hes] at h1 ⊢;exact h1
     rcases hx with rfl|hx
     ·exact h1'
     ·exact hc e.on (by omega) h1' b hx hbn
    have hskip:pp∉P i:=fun h=>by
     have:=hlisted pp h hpp;rw[hlp] at this;cases this
    have hil:i∈i0::l0:=(hl i).2 ⟨hin,hun,hskip⟩;obtain⟨l1,l2,hsplit⟩:=List.append_of_mem hil;have hsorted:(l1++i::l2).Pairwise (· < ·):=hsplit▸hs;have hind:∀ k∈l1,∀ ok,ops[k]? = some ok->Indep ops ok o (D k) (D i):=fun k hk ok hok=>by
     have hki:k<i:=(List.pairwise_append.1 hsorted).2.2 k hk i List.mem_cons_self;have hkl:k∈i0::l0:=by rw[hsplit];exact List.mem_append_left _ hk
     have hkun:=(hl k).1 hkl;have hnp:k∉P i:=fun hp=>by
      have:=hlisted k hp hkun.1;rw[hkun.2.1] at this;cases this
     exact⟨hR.apart i k o ok ho hok hki hnp,⟨hR.sel k ok hok,hR.sel i o ho⟩,hD.w1 i k hki hin hnp,hD.w2 i k hki hin hnp⟩
    rw[hsplit] at he;obtain⟨g1,g2,_⟩:=EnL.pull ho l1 l2 s hind he;by_cases hip:i=pp
    ·subst hip;refine hr.step ho g1 (fun hw hnw=>hf hw hnw) (fun p E' cv hp hrep hr' hg' hb'=>?_) (fun hn=>by rw[hpan] at hn;cases hn);rw[hpan] at hp;cases hp;exact hQ E' a cv s.τ hrep (fun _ _=>rfl) hr' hg' rfl hb'
    ·obtain⟨o1,o2,o3,o4⟩:=hoth i hip;have hM:(s.app o.dst (D i)).M=s.M:=by funext x;simp[MS.app,o1,o2,Qa.keys]
     refine hr.step ho g1 (fun hw hnw=>by rw[o3] at hnw;cases hnw) (fun p E' cv hp=>by rw[o4] at hp;cases hp) fun _ E' a' hr' hg' hd' hb'=>?_;rw[show l0.length+m=(l1++l2).length+m by
      have:=congrArg List.length hsplit;simp at this ⊢;omega]
     refine yk hR hD hpan hself hpp hcl hoth (l1++l2) m (listed.setIfInBounds i true) (s.app o.dst (D i)) E' a' (fun k=>?_) (by simpa using hsz) ?_ (fun k hk hlk b hb hbn=>?_) (by rw[getD_set_ne true hip];exact hlp) hr' g2 (fun hw hnw=>hb' _ (Nat.le_of_eq (hD.lv pp hpp)) (fun h=>by rw[o3] at h;cases h) (hf hw hnw)) ?_
     ·have hmem:k∈l1++l2↔(k∈i0::l0/\k≠i):=by
       rw[hsplit];constructor
       ·intro hk;refine⟨?_,fun e=>?_⟩
        ·rcases List.mem_append.1 hk with hk|hk
         ·exact List.mem_append_left _ hk
         ·exact List.mem_append_right _ (List.mem_cons_of_mem _ hk)
        ·subst e;have hp:=List.pairwise_append.1 hsorted;rcases List.mem_append.1 hk with hk|hk
         ·have:=hp.2.2 k hk k List.mem_cons_self;omega
         ·have:=(List.pairwise_cons.1 hp.2.1).1 k hk;omega
       ·rintro⟨hk,hne⟩;rcases List.mem_append.1 hk with hk|hk
        ·exact List.mem_append_left _ hk
        ·rcases List.mem_cons.1 hk with e|hk
         ·exact absurd e hne
         ·exact List.mem_append_right _ hk
      rw[hmem,hl];constructor
      ·rintro⟨⟨h1,h2,h4⟩,h3⟩;exact⟨h1,by rw[getD_set_ne true (Ne.symm h3)];exact h2,h4⟩
      ·rintro⟨h1,h2,h4⟩;have hne:k≠i:=fun e=>by
        subst e;have:k<listed.size:=by rw[hsz];exact h1
        simp[this] at h2
       exact⟨⟨h1,by rw[getD_set_ne true (Ne.symm hne)] at h2;exact h2,h4⟩,hne⟩
     ·have hp:=List.pairwise_append.1 hsorted;exact List.pairwise_append.2 ⟨hp.1,(List.pairwise_cons.1 hp.2.1).2,fun x hx y hy=>hp.2.2 x hx y (List.mem_cons_of_mem _ hy)⟩
     ·have up:∀ b,b<ops.size->listed.getD b true=true->(listed.setIfInBounds i true).getD b true=true:=fun b hbn h=>by
       by_cases e:i=b
       ·subst e;have:i<listed.size:=by rw[hsz];exact hbn
        simp[this]
       ·rw[getD_set_ne true e];exact h
      by_cases e:k=i
      ·subst e;exact up b hbn (hlisted b hb hbn)
      ·rw[getD_set_ne true (Ne.symm e)] at hlk;exact up b hbn (hc k hk hlk b hb hbn)
     ·intro E2 a2 cv τ' hrep hτ2 hr2 hg2 hd2 hb2;obtain⟨σ1,hst1,hmem1⟩:=hr'.store;rw[hM] at hr2 hg2;have hmem1':∀ x,x∈σ1↔s.M x:=fun x=>by rw[hmem1 x,hM]
      exact hQ E2 a2 cv τ' hrep (fun t ht=>(hτ2 t ht).trans (by show (if o.dst=some t then _ else _)=_;rw[if_neg (ht i o ho)])) hr2 (fun σ σ' h1 h2=>(hg' σ σ1 h1 hmem1).trans (hg2 σ1 σ' hmem1' h2)) (hd2.trans hd') fun id hi1 hne hu=>
       hb2 id hi1 hne (hb' id hi1 (fun h=>by rw[o3] at h;cases h) hu)
termination_by l=>l.length
decreasing_by
 all_goals
  rename_i hsplit _ _ _ _ _ _ _ _ _ _ _ _ _ _ _ _;have:=congrArg List.length hsplit;simp at this ⊢;omega
end
theorem Wjw {P:Program} {get get':Id->Option Blk} {j:Id} {t tx:TypeId} {s x:V} (hx:∀ n,srcV P get' n tx x=srcV P get n tx x) (hs:∀ id ver,s = .vec id ver->get' id=get id):appV P get' j t tx s x=appV P get j t tx s x:=by
 have e:∀ n z,srcZ P get' n tx z x=srcZ P get n tx z x:=fun n z=>QQz (hx n);unfold appV;simp only[e];cases s<;>try rfl
 case vec id ver=>simp only;rw[hs id ver rfl]
def Qq:V->List Id
 | .ptr id _=>[id]
 | .eptr id _ _ _ _=>[id]
 | .vec id _=>[id]
 | .vsub id _ _ _ _=>[id]
 | .map id=>[id]
 | _=>[]
def touch (lk:Operand->Option V):List Operand->List Id
 | []=>[]
 | x::l=>(match lk x with|some v=>Qq v|none=>[])++touch lk l
theorem QI {lk:Operand->Option V} {l:List Operand} {x:Operand} {v:V} (hx:x∈l) (hv:lk x=some v) {id:Id} (hid:id∈Qq v):id∈touch lk l:=by
 induction l with
 | nil=>cases hx
 | cons y l ih=>
   simp only[touch,List.mem_append];rcases List.mem_cons.1 hx with rfl|hx
   ·exact .inl (by rw[hv];exact hid)
   ·exact .inr (ih hx)
theorem Qjw {P:Program} {lk:Operand->Option V} {get get':Id->Option Blk} {j:Id} {op:Op} (h:∀ id∈touch lk op.operands.toList,get' id=get id):WO P lk get' j op=WO P lk get j op:=by
 cases op
 case indexAddr t x i=>
  have hx:x∈(Op.indexAddr t x i).operands.toList:=by simp[Op.operands]
  simp only[WO];cases hl:lk x with
  | none=>rfl
  | some v=>
    cases hl':lk i with
    | none=>rfl
    | some k=>
      cases v<;>try rfl
      case vec id ver=>
       have e:=h id (QI hx hl (by simp[Qq]));cases k<;>first|rfl|(simp only[Option.bind_some];rw[e])
 case call c=>
  have hargs:∀ x∈c.args.toList,x∈(Op.call c).operands.toList:=fun x hx=>by simp[Op.operands,Call.operands];exact .inr (by simpa using hx)
  simp only[WO];split
  ·rename_i s x t tx hcal ha hat;have hs1:=hargs s (by rw[ha];simp);have hx1:=hargs x (by rw[ha];simp);cases hl:lk s with
   | none=>rfl
   | some vs=>
     cases hl':lk x with
     | none=>rfl
     | some vx=>
       simp only[Option.bind_some];have e1:∀ n,srcV P get' n tx vx=srcV P get n tx vx:=fun n=>by
        cases vx<;>try rfl
        case vec id ver=>simp only[srcV];rw[h id (QI hx1 hl' (by simp[Qq]))]
        case vsub id ver _ _ _=>simp only[srcV];rw[h id (QI hx1 hl' (by simp[Qq]))]
       exact Wjw e1 fun id ver e=>by subst e;exact h id (QI hs1 hl (by simp[Qq]))
  ·rename_i x t hcal ha hat;have hx1:=hargs x (by rw[ha];simp);cases hl:lk x with
   | none=>rfl
   | some vx=>
     simp only[Option.bind_some];cases vx<;>try rfl
     case vec id ver=>simp only;rw[h id (QI hx1 hl (by simp[Qq]))]
  ·rfl
 all_goals rfl
theorem Qkq {P:Program} {lk:Operand->Option V} {get get':Id->Option Blk} {op:Op} (h:∀ id∈touch lk op.operands.toList,get' id=get id):Xc P lk get' op=Xc P lk get op:=by
 have hw:∀ {v:V},(∀ id∈Qq v,get' id=get id)->winV get' v=winV get v:=fun {v} hh=>by
  cases v<;>try rfl
  case vec id ver=>simp only[winV];rw[hh id (by simp[Qq])]
  case vsub id ver _ _ _=>simp only[winV];rw[hh id (by simp[Qq])]
 have hid:∀ {v:V} {r:Id × Nat × Nat},winV get v=some r->r.1∈Qq v:=fun {v r} hr=>by
  unfold winV at hr;split at hr
  ·obtain⟨k,_,hr⟩:=Option.bind_eq_some_iff.1 hr;split at hr
   ·split at hr
    ·cases hr;simp[Qq]
    ·cases hr
   ·cases hr
  ·obtain⟨k,_,hr⟩:=Option.bind_eq_some_iff.1 hr;split at hr
   ·split at hr
    ·cases hr;simp[Qq]
    ·cases hr
   ·cases hr
  ·cases hr
 have hsrc:∀ {v:V} (n:Nat) (tx:TypeId),(∀ id∈Qq v,get' id=get id)->srcV P get' n tx v=srcV P get n tx v:=fun {v} n tx hh=>by
  cases v<;>try rfl
  case vec id ver=>simp only[srcV];rw[hh id (by simp[Qq])]
  case vsub id ver _ _ _=>simp only[srcV];rw[hh id (by simp[Qq])]
 cases op
 case slice t x lo hi mx=>
  have hx:x∈(Op.slice t x lo hi mx).operands.toList:=by simp[Op.operands]
  simp only[Xc];cases hl:lk x with
  | none=>rfl
  | some v=>
    have hh:∀ id∈Qq v,get' id=get id:=fun id hi=>h id (QI hx hl hi);simp only[Option.bind_some,hw hh];cases hr:winV get v with
    | none=>rfl
    | some r=>
      obtain⟨id,b,len⟩:=r;simp only[Option.bind_some];rw[hh id (hid hr)]
 case indexAddr t x i=>
  have hx:x∈(Op.indexAddr t x i).operands.toList:=by simp[Op.operands]
  simp only[Xc];cases hl:lk x with
  | none=>rfl
  | some v=>
    have hh:∀ id∈Qq v,get' id=get id:=fun id hi=>h id (QI hx hl hi);cases lk i with
    | none=>rfl
    | some k=>
      simp only[Option.bind_some];split
      ·rw[hw hh]
      ·rfl
 case call c=>
  have hargs:∀ x∈c.args.toList,x∈(Op.call c).operands.toList:=fun x hx=>by simp[Op.operands,Call.operands];exact .inr (by simpa using hx)
  simp only[Xc];split
  ·rename_i x t hcal ha hat;have hx:=hargs x (by rw[ha];simp);cases hl:lk x with
   | none=>rfl
   | some v=>
     have hh:∀ id∈Qq v,get' id=get id:=fun id hi=>h id (QI hx hl hi);simp only[Option.bind_some];split
     ·rw[hw hh]
     ·rfl
  ·rename_i x t hcal ha hat;have hx:=hargs x (by rw[ha];simp);cases hl:lk x with
   | none=>rfl
   | some v=>
     have hh:∀ id∈Qq v,get' id=get id:=fun id hi=>h id (QI hx hl hi);simp only[Option.bind_some,hw hh];cases hr:winV get v with
     | none=>rfl
     | some r=>
       obtain⟨id,b,len⟩:=r;simp only[Option.bind_some];rw[hh id (hid hr)]
  ·rename_i s x t tx hcal ha hat;have hs':=hargs s (by rw[ha];simp);have hx':=hargs x (by rw[ha];simp);cases hl:lk s with
   | none=>rfl
   | some v=>
     have hh:∀ id∈Qq v,get' id=get id:=fun id hi=>h id (QI hs' hl hi);simp only[Option.bind_some];split
     ·cases hl2:lk x with
      | none=>rfl
      | some vx=>
        have hh2:∀ id∈Qq vx,get' id=get id:=fun id hi=>h id (QI hx' hl2 hi);simp only[Option.bind_some,hw hh,hsrc _ _ hh2];rw[hh _ (by simp[Qq])]
     ·rfl
  ·rename_i s x t tx hcal ha hat;have hs':=hargs s (by rw[ha];simp);have hx':=hargs x (by rw[ha];simp);cases hl:lk s with
   | none=>rfl
   | some v=>
     have hh:∀ id∈Qq v,get' id=get id:=fun id hi=>h id (QI hs' hl hi);simp only[Option.bind_some];cases hl2:lk x with
     | none=>rfl
     | some vx=>
       have hh2:∀ id∈Qq vx,get' id=get id:=fun id hi=>h id (QI hx' hl2 hi);simp only[Option.bind_some,hw hh,hsrc _ _ hh2];cases hr:winV get v with
       | none=>rfl
       | some r=>
         obtain⟨id,b,len⟩:=r;simp only[Option.bind_some];rw[hh id (hid hr)]
  ·rfl
 all_goals rfl
theorem opA_local {P:Program} {lk:Operand->Option V} {get get':Id->Option Blk} {j:Id} {op:Op} (h:∀ id∈touch lk op.operands.toList,get' id=get id):opA P lk get' j op=opA P lk get j op:=by
 have hs:QN P lk get' j op=QN P lk get j op:=by
  cases op<;>try rfl
  case load t x=>
   have hx:x∈(Op.load t x).operands.toList:=by simp[Op.operands]
   simp only[QN];cases hl:lk x with
   | none=>rfl
   | some v=>
     cases v<;>try rfl
     case ptr id off=>simp only[Option.bind_some];rw[h id (QI hx hl (by simp[Qq]))]
     case eptr id _ _ _ _=>simp only[Option.bind_some];rw[h id (QI hx hl (by simp[Qq]))]
  case store t x y=>
   have hx:x∈(Op.store t x y).operands.toList:=by simp[Op.operands]
   simp only[QN];cases hl:lk x with
   | none=>rfl
   | some p=>
     cases hl':lk y with
     | none=>rfl
     | some v=>
       cases p<;>try rfl
       case ptr id off=>simp only[Option.bind_some];rw[h id (QI hx hl (by simp[Qq]))]
       case eptr id _ _ _ _=>simp only[Option.bind_some];rw[h id (QI hx hl (by simp[Qq]))]
 have hv:WO P lk get' j op=WO P lk get j op:=Qjw h;have hsub:Xc P lk get' op=Xc P lk get op:=Qkq h;have hm:Ws P lk get' j op=Ws P lk get j op:=by
  cases op<;>try rfl
  case lookup t x i ok=>
   have hx:x∈(Op.lookup t x i ok).operands.toList:=by simp[Op.operands]
   simp only[Ws];cases hl:lk x with
   | none=>rfl
   | some v=>
     cases v<;>try rfl
     case map id=>simp only[Option.bind_some];rw[h id (QI hx hl (by simp[Qq]))]
  case mapUpdate t x i y=>
   have hx:x∈(Op.mapUpdate t x i y).operands.toList:=by simp[Op.operands]
   simp only[Ws];cases hl:lk x with
   | none=>rfl
   | some v=>
     cases v<;>try rfl
     case map id=>simp only[Option.bind_some];rw[h id (QI hx hl (by simp[Qq]))]
  case insert t x i y=>
   have hx:x∈(Op.insert t x i y).operands.toList:=by simp[Op.operands]
   simp only[Ws];cases hl:lk x with
   | none=>rfl
   | some v=>
     cases v<;>try rfl
     case map id=>simp only[Option.bind_some];rw[h id (QI hx hl (by simp[Qq]))]
  case call c=>
   simp only[Ws];split
   ·rename_i x t hcal hargs hats;have ha:c.args = #[x]:=by rw[<- Array.toArray_toList (xs:=c.args),hargs]
    have hx:x∈(Op.call c).operands.toList:=by simp[Op.operands,Call.operands,ha]
    split
    ·cases hl:lk x with
     | none=>rfl
     | some v=>
       cases v<;>try rfl
       case map id=>simp only[Option.bind_some];rw[h id (QI hx hl (by simp[Qq]))]
    ·rfl
   ·rfl
 unfold opA;rw[hs,hv,hsub,hm]
theorem storeOp_j {P:Program} {lk:Operand->Option V} {get:Id->Option Blk} {j j':Id} {op:Op} {r:V × Upd} (h:QN P lk get j op=some r) (hu:r.2.Wf=false):QN P lk get j' op=some r:=by
 unfold QN at h;split at h
 ·exact h
 ·exact h
 ·obtain⟨z,_,e⟩:=Option.map_eq_some_iff.1 h;subst e;simp[Upd.Wf] at hu
 ·obtain⟨w,_,e⟩:=Option.bind_eq_some_iff.1 h;split at e
  ·cases e;simp[Upd.Wf] at hu
  ·cases e
 ·cases h
theorem QPw {P:Program} {lk:Operand->Option V} {get:Id->Option Blk} {j j':Id} {op:Op} (h:QN P lk get j op=none):QN P lk get j' op=none:=by
 unfold QN at h ⊢;split
 ·exact h
 ·exact h
 ·simp only at h;rename_i t;cases hz:QQ P t with
  | none=>rfl
  | some z=>simp[hz] at h
 ·simp only at h;rename_i t x;cases hl:lk x with
  | none=>rfl
  | some w=>
    simp only[hl,Option.bind_some] at h ⊢;split
    ·rename_i hw;rw[if_pos hw] at h;cases h
    ·rfl
 ·rfl
theorem appV_j {P:Program} {get:Id->Option Blk} {j j':Id} {t tx:TypeId} {a b:V} {v:V} {u:Upd} (h2:appV P get j t tx a b=some (v,u)) (hu:u.Wf=false):appV P get j' t tx a b=some (v,u):=by
 unfold appV at h2 ⊢;obtain⟨el,a1,h3⟩:=Option.bind_eq_some_iff.1 h2;obtain⟨nn,a2,h4⟩:=Option.bind_eq_some_iff.1 h3;obtain⟨bb,a3,h5⟩:=Option.bind_eq_some_iff.1 h4;obtain⟨zz,a4,h6⟩:=Option.bind_eq_some_iff.1 h5;obtain⟨xs,a5,h7⟩:=Option.bind_eq_some_iff.1 h6;simp only[a1,a2,a3,a4,a5,Option.bind_some];split at h7
 ·rename_i hc;rw[if_pos hc];split at h7
  ·exact h7
  ·split at h7
   ·cases h7;simp[Upd.Wf] at hu
   ·cases h7
  ·cases h7
 ·cases h7
theorem vecOp_j {P:Program} {lk:Operand->Option V} {get:Id->Option Blk} {j j':Id} {op:Op} {v:V} {u:Upd} (h:WO P lk get j op=some (v,u)) (hu:u.Wf=false):WO P lk get j' op=some (v,u):=by
 unfold WO at h ⊢;split at h
 ·split at h
  ·obtain⟨vs,f1,h1⟩:=Option.bind_eq_some_iff.1 h;obtain⟨vx,f2,h2⟩:=Option.bind_eq_some_iff.1 h1;rw[f1,f2];exact appV_j h2 hu
  ·exact h
  ·cases h
 ·exact h
 ·obtain⟨a,_,h1⟩:=Option.bind_eq_some_iff.1 h;obtain⟨b,_,h2⟩:=Option.bind_eq_some_iff.1 h1;split at h2
  ·obtain⟨_,_,h3⟩:=Option.bind_eq_some_iff.1 h2;obtain⟨_,_,h4⟩:=Option.bind_eq_some_iff.1 h3;obtain⟨_,_,h5⟩:=Option.bind_eq_some_iff.1 h4;obtain⟨_,_,h6⟩:=Option.bind_eq_some_iff.1 h5;split at h6
   ·cases h6;simp[Upd.Wf] at hu
   ·cases h6
  ·cases h2
 ·exact h
 ·exact h
 ·cases h
theorem mapOp_j {P:Program} {lk:Operand->Option V} {get:Id->Option Blk} {j j':Id} {op:Op} {v:V} {u:Upd} (h:Ws P lk get j op=some (v,u)) (hu:u.Wf=false):Ws P lk get j' op=some (v,u):=by
 cases op<;>try exact h
 case makeMap t r=>
  cases r with
  | none=>
    simp only[Ws] at h;split at h
    ·cases h;simp[Upd.Wf] at hu
    ·cases h
  | some x=>
    simp only[Ws] at h;obtain⟨n,_,h⟩:=Option.bind_eq_some_iff.1 h;split at h
    ·split at h
     ·cases h;simp[Upd.Wf] at hu
     ·cases h
    ·cases h
theorem mapOp_jn {P:Program} {lk:Operand->Option V} {get:Id->Option Blk} {j j':Id} {op:Op} (h:Ws P lk get j op=none):Ws P lk get j' op=none:=by
 cases op<;>try exact h
 case makeMap t r=>
  cases r with
  | none=>
    simp only[Ws] at h ⊢;split at h
    ·cases h
    ·rename_i hc;rw[if_neg hc]
  | some x=>
    simp only[Ws] at h ⊢;cases hl:lk x with
    | none=>rfl
    | some w=>
      rw[hl] at h;cases w<;>try rfl
      simp only[Option.bind_some] at h ⊢;split at h
      ·cases h
      ·rename_i hc;rw[if_neg hc]
theorem opA_j {P:Program} {lk:Operand->Option V} {get:Id->Option Blk} {j j':Id} {op:Op} {v:V} {u:Upd} (h:opA P lk get j op=some (v,u)) (hu:u.Wf=false):opA P lk get j' op=some (v,u):=by
 unfold opA at h ⊢;split at h
 ·exact h
 ·split at h
  ·rename_i r hr;cases h;rw[storeOp_j hr hu]
  ·rename_i hr;rw[QPw hr];split at h
   ·exact h
   ·split at h
    ·rename_i r hr';cases h;rw[mapOp_j hr' hu]
    ·rename_i hr';rw[mapOp_jn hr'];exact vecOp_j h hu
end Go.Awp
