/- AWP, text 33: a statement that draws its order and holds one call that writes or panics. -/
import Derived.Test.YtnielafbkgpgjaaGreatDoorX13
set_option linter.all false
set_option maxRecDepth 100000
set_option maxHeartbeats 8000000
namespace Go.Awp
open Go
def ZO:Op->Bool
 | .call c=>match c.callee with|.builtin _=>false|_=>true
 | _=>false
def YF:Op->Bool
 | .store ..=>true
 | .mapUpdate ..=>true
 | _=>false
def Xo:Op->Bool
 | .alloc _=>true
 | _=>false
theorem alloc_wr {P:Program} {lk:Operand->Option V} {get:Id->Option Blk} {j:Id} {op:Op} {v:V} {u:Upd} (hs:Xo op=true) (h:opA P lk get j op=some (v,u)):∀ id,id∈u.wr j->id∈Qq v:=fun id hid=>by
 cases op<;>simp[Xo] at hs;rename_i t;have e1:QY P lk (.alloc t)=none:=rfl;unfold opA at h;rw[e1] at h;simp only[QN] at h;cases hz:QQ P t with
 | none=>
   rw[hz] at h;simp only[Option.map_none] at h;have e2:Xc P lk get (.alloc t)=none:=rfl;have e3:Ws P lk get j (.alloc t)=none:=rfl;have e4:WO P lk get j (.alloc t)=none:=rfl;rw[e2,e3,e4] at h;cases h
 | some z=>
   rw[hz] at h;simp only[Option.map_some,Option.some.injEq,Prod.mk.injEq] at h;obtain⟨rfl,rfl⟩:=h;simpa[Upd.wr,Qq] using hid
theorem store_wr {P:Program} {lk:Operand->Option V} {get:Id->Option Blk} {j:Id} {op:Op} {v:V} {u:Upd} (hs:YF op=true) (h:opA P lk get j op=some (v,u)):∀ id,id∈u.wr j->id∈touch lk op.operands.toList:=fun id hid=>by
 cases u with
 | none=>simp[Upd.wr] at hid
 | put i b=>
   have:id=i:=by simpa[Upd.wr] using hid
   subst this;exact (opA_put h).2
 | new b=>
   exfalso;cases op<;>simp[YF] at hs
   case store t x y=>
    have e1:QY P lk (.store t x y)=none:=rfl;have e2:Xc P lk get (.store t x y)=none:=rfl;have e3:Ws P lk get j (.store t x y)=none:=rfl;have e4:WO P lk get j (.store t x y)=none:=rfl;unfold opA at h;rw[e1,e2,e3,e4] at h;simp only[QN] at h;cases hx:lk x with
    | none=>rw[hx] at h;simp at h
    | some p=>
      cases hy:lk y with
      | none=>rw[hx,hy] at h;simp at h
      | some w=>
        rw[hx,hy] at h;simp only[Option.bind_some] at h;cases p with
        | ptr id off=>
          simp only at h;cases hg:get id with
          | none=>rw[hg] at h;simp at h
          | some k=>
            rw[hg] at h;cases k with
            | cells t' cs=>simp only[Option.bind_some] at h;split at h<;>simp at h;rename_i h2;split at h2<;>simp_all
            | _=>simp at h
        | eptr id ver sz i off=>
          simp only at h;cases hg:get id with
          | none=>rw[hg] at h;simp at h
          | some k=>
            rw[hg] at h;cases k with
            | vec t' s' es ver' wr=>
              cases wr with
              | false=>simp at h
              | true=>
                simp only[Option.bind_some] at h;split at h
                ·rename_i r hr;split at hr
                 ·cases he:es[i]? with
                  | none=>rw[he] at hr;simp at hr
                  | some e=>rw[he] at hr;simp only[Option.bind_some] at hr;split at hr<;>simp at hr;cases hr;simp at h
                 ·cases hr
                ·simp at h
            | _=>simp at h
        | _=>simp at h
   case mapUpdate t x i y=>
    have e1:QY P lk (.mapUpdate t x i y)=none:=rfl;have e2:Xc P lk get (.mapUpdate t x i y)=none:=rfl;have e3:QN P lk get j (.mapUpdate t x i y)=none:=rfl;have e4:WO P lk get j (.mapUpdate t x i y)=none:=rfl;unfold opA at h;rw[e1,e2,e3,e4] at h;simp only[Ws] at h;cases hx:lk x with
    | none=>rw[hx] at h;simp at h
    | some m=>
      cases hi:lk i with
      | none=>rw[hx,hi] at h;simp at h
      | some kk=>
        cases hy:lk y with
        | none=>rw[hx,hi,hy] at h;simp at h
        | some w=>
          rw[hx,hi,hy] at h;simp only[Option.bind_some] at h;cases m with
          | map id=>
            simp only at h;cases hg:get id with
            | none=>rw[hg] at h;simp at h
            | some k=>
              rw[hg] at h;cases k with
              | map ks vs clk=>
                simp only[Option.bind_some] at h;cases hset:setM P t ks vs clk kk w with
                | none=>rw[hset] at h;simp at h
                | some b'=>rw[hset] at h;simp at h
              | _=>simp at h
          | _=>simp at h
def ADet (C:Ctx) (f:FuncId) (args:List V) (σi:Qa) (out:AOut) (σo:Qa):Prop:=AFn C f args σi fun _ o σ'=>o=out/\σ' = σo
def AOut.val:AOut->V
 | .ret v=>v
 | .pan _=>.tup []
def AOut.panV:AOut->Option V
 | .ret _=>none
 | .pan p=>some p
theorem Qa.Vm (σ:Qa):σ.less σ=[]:=by
 rw[List.eq_nil_iff_forall_not_mem];intro x hx;have:=Qa.WV.1 hx;exact this.2 (List.mem_map.2 ⟨x,this.1,rfl⟩)
section
variable {C:Ctx} {ops:Array Oper}
theorem LT.det {o:Oper} {s:ASt} {c:Call} {fo:Operand} (hc:o.op = .call c) (hf:c.callee = .value fo) {f:FuncId} {first cap args:List V} (hfv:lkA C s.τ fo=some (.func (.func f) first cap)) (hvs:allV (lkA C s.τ) c.args.toList=some args)
 {σi σo:Qa} {out:AOut} (h:ADet C f (first++args++cap) σi out σo) (hn:σi.keys.Nodup):LT C o (lkA C s.τ) σi (s.lv,s.nx) s.lv out.val σo false out.panV:=by
 refine LT.callQ hc hf hfv hvs (vL (s:={ s with σ:=σi }) h (fun _ hx=>hx) hn ?_);rintro L o σ' _ _ ⟨rfl,rfl⟩;rw[Qa.Vm];cases o<;>simp[AOut.panV,AOut.val]
structure ZZ (pp:Nat) (σi σo:Qa) (pv:Option V) (C:Ctx) (ops:Array Oper) (is:List Nat) (s sN:ASt) (D:Nat->D):Prop where
 en:EnL C ops s.n s.lv D is (toMS s)
 app:appL ops D is (toMS s)=toMS sN
 neat:Neat sN
 n:sN.n=s.n
 lv:sN.lv=s.lv
 nx:s.nx<=sN.nx
 j1:∀ i,(D i).j.1=s.lv
 j2:∀ i∈is,s.nx<=(D i).j.2
 j3:∀ i∈is,(D i).nw=true->(D i).j.2<sN.nx
 j4:∀ i∈is,∀ i'∈is,i<i'->(D i).nw=true->(D i).j.2<(D i').j.2
 idle:∀ i∈is,∀ o,ops[i]? = some o->WY o.op=true->(D i).ro=[]/\(D i).wi=[]/\(D i).wo=[]
 reads:∀ i∈is,i≠pp->∀ o,ops[i]? = some o->QG o.op=false->(D i).wi=[]/\(D i).wo=[]/\(D i).nw=false
 rdk:∀ i∈is,i≠pp->∀ o,ops[i]? = some o->ZO o.op=false->∀ id,id∈Qa.keys (D i).ro->id∈touch (lkA C sN.τ) o.op.operands.toList
 wrk:∀ i∈is,i≠pp->∀ o,ops[i]? = some o->YF o.op=true->∀ id,(id∈Qa.keys (D i).wi∨id∈Qa.keys (D i).wo)->id∈touch (lkA C sN.τ) o.op.operands.toList
 alk:∀ i∈is,i≠pp->∀ o t,ops[i]? = some o->Xo o.op=true->o.dst=some t->(∀ i'∈is,i<i'->∀ o',ops[i']? = some o'->o'.dst≠some t)->∀ id,(id∈Qa.keys (D i).wi∨id∈Qa.keys (D i).wo)->∃ v,sN.τ.lookup t=some v/\id∈Qq v
 keep:∀ t,(∀ i∈is,∀ o,ops[i]? = some o->o.dst≠some t)->sN.τ.lookup t=s.τ.lookup t
 pan:∀ i∈is,i≠pp->(D i).pan=none
 at0:pp∈is->(D pp).ro=[]/\(D pp).wi=σi/\(D pp).wo=σo/\(D pp).nw=false/\(D pp).pan=pv
 off:∀ i,i∉is->(D i).ro=[]/\(D i).wi=[]/\(D i).wo=[]/\(D i).nw=false/\(D i).pan=none
variable {pp:Nat} {σi σo:Qa} {pv:Option V}
theorem ZZ.nil {s:ASt} (h:Neat s):ZZ pp σi σo pv C ops [] s s fun _=>⟨false,.tup [],[],[],[],(s.lv,s.nx),false,none⟩:=
 ⟨trivial,rfl,h,rfl,rfl,Nat.le_refl _,fun _=>rfl,fun _ h=>(by cases h),fun _ h=>(by cases h),fun _ h=>(by cases h),fun _ h=>(by cases h),fun _ h=>(by cases h),fun _ h=>(by cases h),fun _ h=>(by cases h),fun _ h=>(by cases h),fun _ _=>rfl,fun _ h=>(by cases h),fun h=>(by cases h),fun _ _=>⟨rfl,rfl,rfl,rfl,rfl⟩⟩
theorem zw {lk lk':Operand->Option V} {l:List Operand} (h:∀ x∈l,lk x=lk' x):touch lk l=touch lk' l:=by
 induction l with
 | nil=>rfl
 | cons x l ih=>simp only[touch,h x (by simp),ih fun y hy=>h y (by simp[hy])]
theorem uO {τ τ':List (Nat × V)} {x:Operand} (h:∀ t,x = .tmp t->τ.lookup t=τ'.lookup t):lkA C τ x=lkA C τ' x:=by
 cases x with
 | tmp t=>exact h t rfl
 | _=>rfl
def wO (l:List Oper):Bool:=
 l.zipIdx.all fun (o,i)=>l.zipIdx.all fun (o',j)=>!decide (i<=j)||(o.op.operands.toList.all fun x=>match x with|.tmp t=>o'.dst != some t|_=>true)
def Qgq (ops:Array Oper):Prop:=∀ (i j:Nat) o o',i<=j->ops[i]? = some o->ops[j]? = some o'->∀ t,Operand.tmp t∈o.op.operands.toList->o'.dst≠some t
theorem Jv {l:List Oper} (h:wO l=true):Qgq l.toArray:=by
 intro i j o o' hij ho ho' t ht e;rw[List.getElem?_toArray] at ho ho';have m1:(o,i)∈l.zipIdx:=List.mem_zipIdx_iff_getElem?.2 ho;have m2:(o',j)∈l.zipIdx:=List.mem_zipIdx_iff_getElem?.2 ho';have h1:=List.all_eq_true.1 h _ m1;have h2:=List.all_eq_true.1 h1 _ m2;simp only[Bool.or_eq_true,Bool.not_eq_true',decide_eq_false_iff_not] at h2;rcases h2 with h2|h2
 ·exact h2 hij
 ·have:=List.all_eq_true.1 h2 _ ht;simp[e] at this
theorem ZZ.cons {k:Nat} {is:List Nat} {s s1 sN:ASt} {o:Oper} {d:Awp.D} {D:Nat->Awp.D} (hst:Qgq ops) (hlt:∀ i∈is,k<i) (ho:ops[k]? = some o) (he:En C ops s.n s.lv o d (toMS s)) (hm:toMS s1=(toMS s).app o.dst d) (hn:s1.n=s.n) (hl:s1.lv=s.lv)
 (hx:s.nx<=s1.nx) (hj:d.j=(s.lv,s.nx)) (hnw:d.nw=true->s.nx<s1.nx) (hid:WY o.op=true->d.ro=[]/\d.wi=[]/\d.wo=[]) (hrd:k≠pp->QG o.op=false->d.wi=[]/\d.wo=[]/\d.nw=false)
 (hro:k≠pp->ZO o.op=false->∀ id,id∈Qa.keys d.ro->id∈touch (lkA C s.τ) o.op.operands.toList)
 (hwk:k≠pp->YF o.op=true->∀ id,(id∈Qa.keys d.wi∨id∈Qa.keys d.wo)->id∈touch (lkA C s.τ) o.op.operands.toList)
 (hal:k≠pp->Xo o.op=true->∀ id,(id∈Qa.keys d.wi∨id∈Qa.keys d.wo)->id∈Qq d.v) (hpn:k≠pp->d.pan=none)
 (h0:k=pp->d.ro=[]/\d.wi=σi/\d.wo=σo/\d.nw=false/\d.pan=pv) (h:ZZ pp σi σo pv C ops is s1 sN D):
 ZZ pp σi σo pv C ops (k::is) s sN fun i=>if i=k then d else D i:=by
 have ne:∀ i∈is,D i=if i=k then d else D i:=fun i hi=>by
  have:=hlt i hi;rw[if_neg (by omega)]
 have hjk:d.j.1=s.lv/\d.j.2=s.nx:=by rw[hj];exact⟨rfl,rfl⟩
 have ink:∀ {i},i∈k::is->i≠k->i∈is:=fun hi hne=>by
  rcases List.mem_cons.1 hi with e|hi
  ·exact absurd e hne
  ·exact hi
 have τ1:∀ t,o.dst≠some t->s1.τ.lookup t=s.τ.lookup t:=fun t ht=>by
  have:=congrFun (congrArg MS.τ hm) t;simp only[toMS,MS.app] at this;rw[this,if_neg ht]
 refine⟨?_,?_,h.neat,h.n.trans hn,h.lv.trans hl,Nat.le_trans hx h.nx,fun i=>?_,fun i hi=>?_,fun i hi hnw'=>?_,fun i hi i' hi' hii hnw'=>?_,fun i hi o' ho' hb=>?_,fun i hi hip o' ho' hb=>?_,fun i hi hip o' ho' hb id hid=>?_,fun i hi hip o' ho' hb id hid=>?_,fun i hi hip o' t ho' hb hdt hun id hid=>?_,fun t ht=>?_,fun i hi hip=>?_,fun hpp=>?_,fun i hi=>?_⟩
 ·refine⟨o,ho,by simpa using he,?_⟩;simp only[if_true];rw[<- hm];have:=h.en;rw[hn,hl] at this;exact this.congr ne
 ·simp only[appL,ho,Option.bind_some,if_pos];rw[<- hm,<- qI (D1:=D) ne];exact h.app
 ·split
  ·exact hjk.1
  ·exact (h.j1 i).trans hl
 ·split
  ·rw[hjk.2];exact Nat.le_refl _
  ·rename_i e;exact Nat.le_trans hx (h.j2 i (ink hi e))
 ·split at hnw'
  ·rename_i e;rw[if_pos e,hjk.2];exact Nat.lt_of_lt_of_le (hnw hnw') h.nx
  ·rename_i e;rw[if_neg e];exact h.j3 i (ink hi e) hnw'
 ·have hne':i'≠k:=by
   intro e;subst e;rcases List.mem_cons.1 hi with e|hi
   ·omega
   ·have:=hlt i hi;omega
  rw[if_neg hne'];split at hnw'
  ·rename_i e;rw[if_pos e,hjk.2];exact Nat.lt_of_lt_of_le (hnw hnw') (h.j2 i' (ink hi' hne'))
  ·rename_i e;rw[if_neg e];exact h.j4 i (ink hi e) i' (ink hi' hne') hii hnw'
 ·split
  ·rename_i e;subst e;rw[ho] at ho';cases ho';exact hid hb
  ·rename_i e;exact h.idle i (ink hi e) o' ho' hb
 ·split
  ·rename_i e;subst e;rw[ho] at ho';cases ho';exact hrd hip hb
  ·rename_i e;exact h.reads i (ink hi e) hip o' ho' hb
 ·split at hid
  ·rename_i e;subst e;rw[ho] at ho';cases ho';have:=hro hip hb id hid
   rwa [zw (lk':=lkA C sN.τ) fun x hx=>uO fun t ht=>?_] at this
   subst ht;rw[h.keep t fun i' hi' o'' ho''=>hst i i' o o'' (Nat.le_of_lt (hlt i' hi')) ho ho'' t hx,τ1 t (hst i i o o (Nat.le_refl _) ho ho t hx)]
  ·rename_i e;exact h.rdk i (ink hi e) hip o' ho' hb id hid
 ·by_cases e:i=k
  ·subst e;rw[ho] at ho';cases ho';rw[if_pos rfl] at hid;have:=hwk hip hb id hid
   rwa [zw (lk':=lkA C sN.τ) fun x hx=>uO fun t ht=>?_] at this
   subst ht;rw[h.keep t fun i' hi' o'' ho''=>hst i i' o o'' (Nat.le_of_lt (hlt i' hi')) ho ho'' t hx,τ1 t (hst i i o o (Nat.le_refl _) ho ho t hx)]
  ·rw[if_neg e] at hid;exact h.wrk i (ink hi e) hip o' ho' hb id hid
 ·by_cases e:i=k
  ·subst e;rw[ho] at ho';cases ho';rw[if_pos rfl] at hid;refine⟨d.v,?_,hal hip hb id hid⟩;rw[h.keep t fun i' hi' o'' ho''=>hun i' (List.mem_cons_of_mem _ hi') (hlt i' hi') o'' ho''];have:=congrFun (congrArg MS.τ hm) t;simp only[toMS,MS.app] at this;rw[this,if_pos hdt]
  ·rw[if_neg e] at hid;exact h.alk i (ink hi e) hip o' t ho' hb hdt (fun i' hi'=>hun i' (List.mem_cons_of_mem _ hi')) id hid
 ·rw[h.keep t fun i hi o' ho'=>ht i (List.mem_cons_of_mem _ hi) o' ho',τ1 t (ht k List.mem_cons_self o ho)]
 ·split
  ·rename_i e;exact hpn (e▸hip)
  ·rename_i e;exact h.pan i (ink hi e) hip
 ·split
  ·rename_i e;exact h0 e.symm
  ·rename_i e;exact h.at0 (ink hpp e)
 ·have h1:i≠k:=fun e=>hi (by simp[e]);rw[if_neg h1];exact h.off i fun hm=>hi (List.mem_cons_of_mem _ hm)
theorem XF {K1 Q:ASt->Prop} {X:V->ASt->Prop} (hst:Qgq ops) {is2:List Nat}:∀ (l:List Nat) (s:ASt),(∀ i∈l,i≠pp/\i<ops.size)->(l++is2).Pairwise (· < ·)->Neat s->
 runS C true ops (l.filterMap fun i=>ops[i]?) s K1 X->
 (∀ s1,K1 s1->Neat s1->s1.n=s.n->s1.lv=s.lv->∃ sN D,ZZ pp σi σo pv C ops is2 s1 sN D/\Q sN)->∃ sN D,ZZ pp σi σo pv C ops (l++is2) s sN D/\Q sN
 | [],s,_,_,hn,h,hk=>hk s h hn rfl rfl
 | k::l,s,hl,hsort,hn,h,hk=>by
   have hkp:=hl k List.mem_cons_self;obtain⟨o,ho⟩:∃ o,ops[k]? = some o:=⟨_,Array.getElem?_eq_getElem hkp.2⟩
   have hl':∀ i∈l,i≠pp/\i<ops.size:=fun i hi=>hl i (List.mem_cons_of_mem _ hi);have hsort':(l++is2).Pairwise (· < ·):=(List.pairwise_cons.1 hsort).2;have hlt:∀ i∈l++is2,k<i:=(List.pairwise_cons.1 hsort).1;rw[List.filterMap_cons,ho] at h;simp only at h;unfold runS ZX at h;split at h
   case h_2=>exact h.elim
   rename_i gb hga;obtain⟨hyes,hno⟩:=h;have hgf:JH ops (toMS s).τ o=some gb:=(zK s o).trans hga;cases gb
   ·obtain⟨hd,h⟩:=hno rfl;have hp:=YO s o.dst (.tup []);obtain⟨sN,D,hc,hk⟩:=XF hst l _ hl' hsort' (hn.put o.dst (.tup [])) h fun s1 a b c e=>hk s1 a b (c.trans hp.2.2.1) (e.trans hp.1)
    let d:Awp.D:=⟨false,.tup [],[],[],[],(s.lv,s.nx),false,none⟩
    exact⟨sN,_,.cons (d:=d) hst hlt ho ⟨hd,hgf,(by intro h;cases h),fun _=>⟨rfl,rfl,rfl,rfl,rfl,rfl⟩,by simp[d],by simp[d,Qa.keys]⟩ (Jt s o d s rfl fun x=>by simp[d,Qa.keys]) hp.2.2.1 hp.1 (Nat.le_of_eq hp.2.2.2.symm) rfl (by intro h;cases h) (fun _=>⟨rfl,rfl,rfl⟩) (fun _ _=>⟨rfl,rfl,rfl⟩) (fun _ _ id hid=>by simp[d,Qa.keys] at hid) (fun _ _ id hid=>by simp[d,Qa.keys] at hid) (fun _ _ id hid=>by simp[d,Qa.keys] at hid) (fun _=>rfl) (fun e=>absurd e hkp.1) hc,hk⟩
   ·have h:=hyes rfl;have plain:JC C o s (fun s'=>runS C true ops (l.filterMap fun i=>ops[i]?) s' K1 X)->∃ sN D,ZZ pp σi σo pv C ops (k::l++is2) s sN D/\Q sN:=by
     rintro⟨hd,v,u,hop,h⟩;obtain⟨ro,wi,wo,q1,q2,q3,q4,q5,q6,q7,q8⟩:=plainD' (C:=C) hn hop;have hnx:=hn.upd u;have hp:=YO (({ s with σ:=u.app s.σ (s.lv,s.nx) }:ASt).next u.Wf) o.dst v;obtain⟨sN,D,hc,hk⟩:=XF hst l _ hl' hsort' (hnx.put o.dst v) h fun s1 a b c e=>hk s1 a b (c.trans (hp.2.2.1.trans rfl)) (e.trans (hp.1.trans rfl))
     let d:Awp.D:=⟨true,v,ro,wi,wo,(s.lv,s.nx),u.Wf,none⟩
     refine⟨sN,_,.cons (d:=d) hst hlt ho ⟨hd,hgf,fun _=>by rw[Uq];exact q1,(by intro h;cases h),q2,q3⟩ (Jt s o d (({ s with σ:=u.app s.σ (s.lv,s.nx) }:ASt).next u.Wf) rfl q4) (hp.2.2.1.trans rfl) (hp.1.trans rfl) ?_ rfl ?_ q7 (fun _ hw=>⟨(q8 hw).1,(q8 hw).2,?_⟩) (fun _ _=>q5) (fun _ hs id hid=>store_wr hs hop id (q6 id hid)) (fun _ hs id hid=>alloc_wr hs hop id (q6 id hid)) (fun _=>rfl) (fun e=>absurd e hkp.1) hc,hk⟩
     ·rw[hp.2.2.2];show s.nx<=if u.Wf=true then s.nx+1 else s.nx
      split<;>omega
     ·intro hu;have hu:u.Wf=true:=hu;rw[hp.2.2.2];show s.nx<if u.Wf=true then s.nx+1 else s.nx
      rw[if_pos hu];omega
     ·have:=qA hw hop;subst this;rfl
    unfold ZL at h;split at h
    ·rename_i c hc;split at h
     ·rename_i f hf;obtain⟨hd,fn,first,cap,args,hfv,hvs,args',v,ids,hp,hz,hfl,h⟩:=h;have hpd:=YO ({ s with σ:=s.σ }:ASt) o.dst v;obtain⟨sN,D,hch,hk⟩:=XF hst l _ hl' hsort' (Neat.put (s:={ s with σ:=s.σ }) hn o.dst v) h fun s1 a b c e=>hk s1 a b (c.trans hpd.2.2.1) (e.trans hpd.1)
      let d:Awp.D:=⟨true,v,Qa.only s.σ ids,[],[],(s.lv,s.nx),false,none⟩
      refine⟨sN,_,.cons (d:=d) hst hlt ho ⟨hd,hgf,fun _=>?_,(by intro h;cases h),fun x hx=>?_,?_⟩ (Jt s o d { s with σ:=s.σ } rfl fun x=>by simp[d,Qa.keys]) hpd.2.2.1 hpd.1 (Nat.le_of_eq hpd.2.2.2.symm) rfl (by intro h;cases h) (fun hi=>?_) (fun _ _=>⟨rfl,rfl,rfl⟩) (fun _ hcl=>?_) (fun _ hcl=>?_) (fun _ hcl=>?_) (fun _=>rfl) (fun e=>absurd e hkp.1) hch,hk⟩
      ·rw[Uq];simp only[d,List.append_nil];exact LT.call hc hf hfv hvs hp hz hfl
      ·have hx:x∈Qa.only s.σ ids:=by simpa[d] using hx
       exact (Ze.1 hx).1
      ·simpa[d] using Ym hn.nodup ids
      ·rw[hc] at hi;simp[WY] at hi
      ·rw[hc] at hcl;simp[ZO,hf] at hcl
      ·rw[hc] at hcl;simp[YF] at hcl
      ·rw[hc] at hcl;simp[Xo] at hcl
     ·exact plain h
    ·rw[if_neg (by simp)] at h;exact plain h
    ·rw[if_pos rfl] at h;exact h.elim
    ·exact plain h
def DetS (C:Ctx) (oc:Oper) (s:ASt) (σi:Qa) (out:AOut) (σo:Qa) (K:ASt->Prop):Prop:=
 ∃ c fo f first cap args,oc.op = .call c/\c.callee = .value fo/\oc.guard=none/\WW s.n oc.dst=true/\lkA C s.τ fo=some (.func (.func f) first cap)/\allV (lkA C s.τ) c.args.toList=some args/\
  ADet C f (first++args++cap) σi out σo/\(∀ x,x∈σi->x∈s.σ)/\K (({ s with σ:=σo++s.σ.less σi }:ASt).putD oc.dst out.val)
theorem vC {oc:Oper} {s:ASt} {out:AOut} {K2 Q:ASt->Prop} {is2:List Nat} (hst:Qgq ops) (hoc:ops[pp]? = some oc) (hlt:∀ i∈is2,pp<i) (hn:(Qa.keys σi).Nodup) (hno:(Qa.keys σo).Nodup) (hsub:∀ id,id∈Qa.keys σo->id∈Qa.keys σi) (hs:Neat s)
 (h:DetS C oc s σi out σo K2) (hk:∀ s2,K2 s2->Neat s2->s2.n=s.n->s2.lv=s.lv->∃ sN D,ZZ pp σi σo out.panV C ops is2 s2 sN D/\Q sN):∃ sN D,ZZ pp σi σo out.panV C ops (pp::is2) s sN D/\Q sN:=by
 obtain⟨c,fo,f,first,cap,args,h1,h2,h3,h4,h5,h6,h7,h8,h9⟩:=h;have km:∀ {σ:Qa} {x:Id × Blk},x∈σ->x.1∈Qa.keys σ:=fun hx=>List.mem_map.2 ⟨_,hx,rfl⟩;have hmem:∀ x,x∈σo++s.σ.less σi↔(x∈σo∨(x∈s.σ/\x.1∉Qa.keys σi)):=fun x=>by
  rw[List.mem_append,Qa.WV]
 have hp:=YO ({ s with σ:=σo++s.σ.less σi }:ASt) oc.dst out.val;have hneat:Neat ({ s with σ:=σo++s.σ.less σi }:ASt):=by
  refine⟨?_,fun k hk hm=>?_⟩
  ·show (Qa.keys (σo++s.σ.less σi)).Nodup;unfold Qa.keys;rw[List.map_append,List.nodup_append];refine⟨hno,Qa.Yp hs.nodup,fun a ha b hb e=>?_⟩;subst e;obtain⟨x,hx,rfl⟩:=List.mem_map.1 hb;exact (Qa.WV.1 hx).2 (hsub _ ha)
  ·have hm:(s.lv,k)∈Qa.keys (σo++s.σ.less σi):=hm;obtain⟨x,hx,e⟩:=List.mem_map.1 hm;rcases (hmem x).1 hx with hx|hx
   ·obtain⟨y,hy,e'⟩:=List.mem_map.1 (hsub _ (km hx));exact hs.new k hk (by rw[<- e,<- e'];exact km (h8 y hy))
   ·exact hs.new k hk (by rw[<- e];exact km hx.1)
 obtain⟨sN,D,hc,hq⟩:=hk _ h9 (hneat.put oc.dst out.val) (hp.2.2.1.trans rfl) (hp.1.trans rfl)
 let d:Awp.D:=⟨true,out.val,[],σi,σo,(s.lv,s.nx),false,out.panV⟩
 refine⟨sN,_,.cons (d:=d) hst hlt hoc ⟨h4,?_,fun _=>?_,(by intro h;cases h),fun x hx=>h8 x (by simpa[d] using hx),by simpa[d] using hn⟩ (Jt s oc d { s with σ:=σo++s.σ.less σi } rfl hmem) hp.2.2.1 hp.1 (Nat.le_of_eq hp.2.2.2.symm) rfl (by intro h;cases h) (fun hi=>?_) (fun e=>absurd rfl e) (fun e=>absurd rfl e) (fun e=>absurd rfl e) (fun e=>absurd rfl e) (fun e=>absurd rfl e) (fun _=>⟨rfl,rfl,rfl,rfl,rfl⟩) hc,hq⟩
 ·unfold JH;rw[h3]
 ·rw[Uq];simp only[d,List.nil_append];exact LT.det h1 h2 h5 h6 h7 hn
 ·rw[h1] at hi;simp[WY] at hi
def vl (ft:List Tmp) (o:Oper):Bool:=
 WY o.op||(!QG o.op && !ZO o.op&&o.op.operands.toList.all fun x=>match x with|.tmp t=>ft.contains t|_=>true)
def Far (ft:List Tmp) (σi:Qa) (s:ASt):Prop:=∀ t,t∈ft->∀ v,s.τ.lookup t=some v->∀ id,id∈Qq v->id∉Qa.keys σi
def YK (pp:Nat) (ft:List Tmp) (ops:List Oper):Bool:=
 let P:=WQ ops []
 uF ops&&wO ops&&decide (pp<ops.length) &&
 ops.zipIdx.all fun (o,i)=>ops.zipIdx.all fun (o',i')=>decide (i<=i')||(P.getD i []).contains i' ||
  (if i=pp then vl ft o' else if i' = pp then vl ft o else ((!QG o'.op||WY o.op)&&(!QG o.op||WY o'.op)))
def yH (pp:Nat) (ops:List Oper):Bool:=
 let P:=WQ ops []
 !((P.getD pp []).contains pp)&&ops.zipIdx.all fun (o,i)=>(P.getD i []).contains pp||((i == pp || !QG o.op)&&o.after.toList.all fun e=>!Region.binds .any e||(!(P.getD e.on []).contains pp&&e.on != pp))
theorem vd {c:Value} {v:V} (h:ofV c=some v):Qq v=[]:=by
 cases c<;>simp[ofV,ofS] at h
 all_goals first
  | (subst h;rfl)
  | (obtain⟨_,_,rfl⟩:=h;rfl)
  | skip
 all_goals
  revert h;split<;>intro h<;>cases h<;>rfl
theorem wV {lk:Operand->Option V}:∀ {l:List Operand} {id:Id},id∈touch lk l->∃ x v,x∈l/\lk x=some v/\id∈Qq v
 | [],id,h=>by cases h
 | y::l,id,h=>by
   simp only[touch,List.mem_append] at h;rcases h with h|h
   ·cases hy:lk y with
    | none=>rw[hy] at h;cases h
    | some v=>rw[hy] at h;exact⟨y,v,by simp,hy,h⟩
   ·obtain⟨x,v,h1,h2,h3⟩:=wV h;exact⟨x,v,by simp[h1],h2,h3⟩
theorem far_spec {ft:List Tmp} {s:ASt} (hf:Far ft σi s) {o:Oper} (h:vl ft o=true) (hid:¬ WY o.op=true):QG o.op=false/\ZO o.op=false/\∀ id,id∈touch (lkA C s.τ) o.op.operands.toList->id∉Qa.keys σi:=by
 unfold vl at h;simp only[Bool.or_eq_true,Bool.and_eq_true,Bool.not_eq_true'] at h;rcases h with h|⟨⟨h1,h2⟩,h3⟩
 ·exact absurd h hid
 refine⟨h1,h2,fun id hi=>?_⟩;obtain⟨x,v,hx,hv,hh⟩:=wV hi;have:=List.all_eq_true.1 h3 x hx;cases x with
 | tmp t=>exact hf t (List.contains_iff_mem.1 this) v hv id hh
 | const c=>rw[vd hv] at hh;cases hh
 | global g=>
   obtain⟨u,_,rfl⟩:=Option.map_eq_some_iff.1 hv;cases hh
 | func f=>cases hv;cases hh
theorem dataY {ft:List Tmp} {is:List Nat} {s sN:ASt} {D:Nat->Awp.D} (hreg:YK pp ft ops.toList=true) (hf:Far ft σi sN) (hsub:∀ id,id∈Qa.keys σo->id∈Qa.keys σi) (hpp:pp∈is) (hc:ZZ pp σi σo pv C ops is s sN D):
 vR (fun i=>(WQ ops.toList []).getD i []) s.lv D ops.size:=by
 unfold YK at hreg;simp only[Bool.and_eq_true] at hreg;obtain⟨_,hpairs⟩:=hreg;have get:∀ {i:Nat} {o:Oper},ops[i]? = some o->(o,i)∈ops.toList.zipIdx:=fun {i o} hi=>by
  refine List.mem_zipIdx_iff_getElem?.2 ?_;simpa using hi
 have opAt:∀ i,i<ops.size->∃ o,ops[i]? = some o:=fun i hi=>⟨_,Array.getElem?_eq_getElem hi⟩
 have pair:∀ i i' o o',i' < i->ops[i]? = some o->ops[i']? = some o'->i'∉(WQ ops.toList []).getD i []->(if i=pp then vl ft o' else if i' = pp then vl ft o else ((!QG o'.op||WY o.op)&&(!QG o.op||WY o'.op)))=true:=fun i i' o o' hlt ho ho' hn=>by
  have h1:=List.all_eq_true.1 hpairs _ (get ho);have h2:=List.all_eq_true.1 h1 _ (get ho');simp only[Bool.or_eq_true,decide_eq_true_eq,List.contains_iff_mem] at h2;rcases h2 with (h2|h2)|h2
  ·omega
  ·exact absurd h2 hn
  ·exact h2
 obtain⟨p1,p2,p3,p4,_⟩:=hc.at0 hpp;have nil:Qa.keys []=[]:=rfl;have far:∀ i o,i≠pp->ops[i]? = some o->vl ft o=true->(D i).wi=[]/\(D i).wo=[]/\∀ id,id∈Qa.keys (D i).ro->id∉Qa.keys σi:=fun i o hip ho hfar=>by
  by_cases hin:i∈is
  ·by_cases hidl:WY o.op=true
   ·obtain⟨e1,e2,e3⟩:=hc.idle i hin o ho hidl;exact⟨e2,e3,fun id h=>by rw[e1] at h;cases h⟩
   ·obtain⟨f1,f2,f3⟩:=far_spec (C:=C) hf hfar hidl;obtain⟨e2,e3,_⟩:=hc.reads i hin hip o ho f1;exact⟨e2,e3,fun id h=>f3 id (hc.rdk i hin hip o ho f2 id h)⟩
  ·obtain⟨e1,e2,e3,_⟩:=hc.off i hin;exact⟨e2,e3,fun id h=>by rw[e1] at h;cases h⟩
 refine⟨fun i i' hlt hi hn id hid=>?_,fun i i' hlt hi hn id hid=>?_,fun i i' hi hi' hne hw hw' e=>?_,fun i _=>hc.j1 i⟩
 ·obtain⟨o,ho⟩:=opAt i hi;obtain⟨o',ho'⟩:=opAt i' (by omega);have hq:=pair i i' o o' hlt ho ho' hn;split at hq
  ·rename_i e;obtain⟨e2,e3,_⟩:=far i' o' (by omega) ho' hq;rw[e2,e3] at hid;simp[Qa.keys] at hid
  ·rename_i e;split at hq
   ·rename_i e';subst e';obtain⟨e2,e3,e4⟩:=far i o e ho hq;rw[p2,p3] at hid;have hid':id∈Qa.keys σi:=hid.elim (fun h=>h) (hsub id);rw[e2,e3];exact⟨fun h=>e4 id h hid',by simp[Qa.keys],by simp[Qa.keys]⟩
   ·rename_i e';simp only[Bool.and_eq_true,Bool.or_eq_true,Bool.not_eq_true'] at hq;by_cases hin':i'∈is
    ·rcases hq.1 with hq|hq
     ·obtain⟨e1,e2,_⟩:=hc.reads i' hin' e' o' ho' hq;rw[e1,e2] at hid;simp[Qa.keys] at hid
     ·by_cases hin:i∈is
      ·obtain⟨e1,e2,e3⟩:=hc.idle i hin o ho hq;rw[e1,e2,e3];simp[Qa.keys]
      ·obtain⟨e1,e2,e3,_⟩:=hc.off i hin;rw[e1,e2,e3];simp[Qa.keys]
    ·obtain⟨e1,e2,e3,_⟩:=hc.off i' hin';rw[e2,e3] at hid;simp[Qa.keys] at hid
 ·obtain⟨o,ho⟩:=opAt i hi;obtain⟨o',ho'⟩:=opAt i' (by omega);have hq:=pair i i' o o' hlt ho ho' hn;split at hq
  ·rename_i e;subst e;obtain⟨_,_,e4⟩:=far i' o' (by omega) ho' hq;rw[p2,p3] at hid;exact fun h=>e4 id h (hid.elim (fun h=>h) (hsub id))
  ·rename_i e;split at hq
   ·rename_i e';subst e';rw[p1];simp[Qa.keys]
   ·rename_i e';simp only[Bool.and_eq_true,Bool.or_eq_true,Bool.not_eq_true'] at hq;by_cases hin:i∈is
    ·rcases hq.2 with hq|hq
     ·obtain⟨e1,e2,_⟩:=hc.reads i hin e o ho hq;rw[e1,e2] at hid;simp[Qa.keys] at hid
     ·by_cases hin':i'∈is
      ·obtain⟨e1,_,_⟩:=hc.idle i' hin' o' ho' hq;rw[e1];simp[Qa.keys]
      ·rw[(hc.off i' hin').1];simp[Qa.keys]
    ·obtain⟨e1,e2,e3,_⟩:=hc.off i hin;rw[e2,e3] at hid;simp[Qa.keys] at hid
 ·have inn:∀ {k},(D k).nw=true->k∈is:=fun {k} h=>by
   refine Classical.byContradiction fun hk=>?_;rw[(hc.off k hk).2.2.2.1] at h;cases h
  rcases Nat.lt_or_gt_of_ne hne with hlt|hlt
  ·have:=hc.j4 i (inn hw) i' (inn hw') hlt hw;rw[e] at this;omega
  ·have:=hc.j4 i' (inn hw') i (inn hw) hlt hw';rw[e] at this;omega
theorem Wiw {id:Nat} {K:QH->ASt->Prop} {s:ASt} {K1 K2 K3:ASt->Prop} {X1 X2:V->ASt->Prop} (pp:Nat) (ft:List Tmp) (σi σo:Qa) (v:V) {oc:Oper} {pre post:List Oper} (hoc:ops[pp]? = some oc)
 (hpre:((List.range' 0 pp).filterMap fun i=>ops[i]?)=pre) (hpost:((List.range' (pp+1) (ops.size - pp - 1)).filterMap fun i=>ops[i]?)=post)
 (hreg:YK pp ft ops.toList=true) (hn:(Qa.keys σi).Nodup) (hno:(Qa.keys σo).Nodup) (hsub:∀ id,id∈Qa.keys σo->id∈Qa.keys σi)
 (h:runS C true ops pre s K1 X1) (hk1:∀ s1,K1 s1->DetS C oc s1 σi (.ret v) σo K2) (hk2:∀ s2,K2 s2->runS C true ops post s2 K3 X2) (hk3:∀ sN,K3 sN->Far ft σi sN/\K .normal sN):AW C (.region id ops true) K s:=fun E a hr=>by
 have hreg0:=hreg;unfold YK at hreg;simp only[Bool.and_eq_true,decide_eq_true_eq] at hreg;obtain⟨⟨⟨hok,hstb⟩,hpp⟩,_⟩:=hreg;have hR:=VE hok;have hS:=Jv hstb;rw[Array.toArray_toList] at hR hS;rw[Array.length_toList] at hpp;have hneat:Neat s:=⟨hr.store.nodup,fun k hk hm=>by
  obtain⟨b,_,hb⟩:=hr.store.mem hm;exact hb.born (hr.own k hk)⟩
 have his:List.range' 0 ops.size=List.range' 0 pp++pp::List.range' (pp+1) (ops.size - pp - 1):=by
  have e1:pp::List.range' (pp+1) (ops.size - pp - 1)=List.range' pp (ops.size - pp):=by
   obtain⟨m,hm⟩:∃ m,ops.size - pp=m+1:=⟨ops.size - pp - 1,by omega⟩
   rw[hm,List.range'_succ];rfl
  rw[e1];have:=List.range'_append (s:=0) (m:=pp) (n:=ops.size - pp) (step:=1);simp only[Nat.one_mul,Nat.zero_add] at this;rw[this];congr 1;omega
 subst hpre;subst hpost;obtain⟨sN,D,hc,hf,hk⟩:=XF (pp:=pp) (σi:=σi) (σo:=σo) (pv:=none) (is2:=pp::List.range' (pp+1) (ops.size - pp - 1)) (Q:=fun sN=>Far ft σi sN/\K .normal sN) hS (List.range' 0 pp) s (fun i hi=>by
  have:=List.mem_range'_1.1 hi;omega) (by rw[<- his];exact List.pairwise_lt_range') hneat h fun s1 h1 hn1 e1 e2=>by
   refine vC (out:=.ret v) hS hoc (fun i hi=>?_) hn hno hsub hn1 (hk1 s1 h1) fun s2 h2 hn2 e3 e4=>?_
   ·have:=List.mem_range'_1.1 hi;omega
   ·have:=XF (pp:=pp) (σi:=σi) (σo:=σo) (pv:=none) (is2:=[]) (Q:=fun sN=>Far ft σi sN/\K .normal sN) hS (List.range' (pp+1) (ops.size - pp - 1)) s2 (fun i hi=>by
     have:=List.mem_range'_1.1 hi;omega) (by rw[List.append_nil];exact List.pairwise_lt_range') hn2 (hk2 s2 h2) fun s3 h3 hn3 _ _=>⟨s3,_,.nil hn3,hk3 s3 h3⟩
    rw[List.append_nil] at this;exact this
 rw[<- his] at hc;have hppm:pp∈List.range' 0 ops.size:=List.mem_range'_1.2 ⟨Nat.zero_le _,by omega⟩;have hD:=dataY hreg0 hf hsub hppm hc;have hall:∀ i,i<ops.size->i∈List.range' 0 ops.size:=fun i hi=>List.mem_range'_1.2 ⟨Nat.zero_le _,by omega⟩;refine wp_region_any C.mixed ?_;have hrm:RelM C s.n s.lv (toMS s) E.bump a:=⟨fun t v hv=>(hr.tmp t v hv).mono ZJ,hr.size,⟨s.σ,VX hr.store,fun x=>Iff.rfl⟩,hr.glob.mono ZJ⟩
 have hfin:=qc (C:=C) (ops:=ops) (N:=s.n) (lv:=s.lv) hR hD (Q:=fun e a' w'=>∃ E' ae s',Post C K s E a e a' w' E' ae s') (List.range' 0 ops.size) (Array.replicate ops.size false) (toMS s) E.bump a ?_ (by simp) ?_ ?_ hrm hc.en ?_ (fun i hi=>?_) ?_
 ·rw[List.length_range'] at hfin;exact hfin
 ·intro i;rw[List.mem_range'_1];constructor
  ·intro hi;have:i<ops.size:=by omega
   exact⟨this,by simp[this]⟩
  ·rintro⟨hi,_⟩;omega
 ·exact List.pairwise_lt_range'
 ·intro i hi hli;simp[hi] at hli
 ·intro i hi hw hnw;have hj1:=hc.j1 i;have hj2:=hc.j2 i hi;have:(D i).j=(s.lv,(D i).j.2):=by rw[<- hj1]
  rw[this];exact hr.own _ hj2
 ·by_cases e:i=pp
  ·subst e;exact (hc.at0 hi).2.2.2.2
  ·exact hc.pan i hi e
 ·intro E' a' hrm' hg hd hb;rw[hc.app] at hrm' hg;obtain⟨σ',hst',hmem'⟩:=hrm'.store;have hrel:Rel C sN E' a':=by
   refine⟨hrm'.tmp,by rw[hc.n];exact hrm'.size,hst'.part (fun x hx=>(hmem' x).2 hx) hc.neat.nodup,fun k hk=>?_,hrm'.glob⟩;rw[hc.lv];refine hb (s.lv,k) (Nat.le_refl _) (fun i hi hnw e=>?_) (hr.own k (Nat.le_trans hc.nx hk));have:=hc.j3 i hi hnw;rw[<- e] at this;simp only at this;omega
  refine⟨E',.normal,sN,rfl,.normal,hk,hrel,qb.trans (hg s.σ sN.σ (fun _=>Iff.rfl) (fun _=>Iff.rfl)),hd,hc.lv,fun id hi hu=>hb id (by omega) (fun i _ _ e=>?_) hu⟩;have:=hc.j1 i;rw[<- e] at this;omega
def qY (l:List Oper) (τ:List (Nat × V)):List (Nat × V):=τ.filter fun q=>l.all fun o=>o.dst != some q.1
theorem VR {l:List Oper}:∀ {τ:List (Nat × V)} {t:Nat} {v:V},(qY l τ).lookup t=some v->τ.lookup t=some v/\∀ o,o∈l->o.dst≠some t
 | [],t,v,h=>by cases h
 | (k,u)::τ,t,v,h=>by
   unfold qY at h;rw[List.filter_cons] at h;by_cases hp:(l.all fun o=>o.dst != some k)=true
   ·rw[if_pos hp,List.lookup_cons] at h;rw[List.lookup_cons];split at h
    ·rename_i e;have e:=eq_of_beq e;subst e;refine⟨by rw[<- h],fun o ho=>?_⟩;have:=List.all_eq_true.1 hp o ho;simpa using this
    ·exact VR h
   ·rw[if_neg hp] at h;have:=VR h;rw[List.lookup_cons];split
    ·rename_i e;have e:=eq_of_beq e;subst e;exfalso;exact hp (List.all_eq_true.2 fun o ho=>by simpa using this.2 o ho)
    ·exact this
theorem QGz {id:Nat} {K:QH->ASt->Prop} {s:ASt} {K1 K2 K3:ASt->Prop} {X1 X2:V->ASt->Prop} (pp:Nat) (ft:List Tmp) (σi σo:Qa) (p:V) {oc:Oper} {postI:List Nat} {pre post:List Oper} (hoc:ops[pp]? = some oc)
 (hpre:((List.range' 0 pp).filterMap fun i=>ops[i]?)=pre) (hpost:(postI.filterMap fun i=>ops[i]?)=post)
 (hI:((List.range' 0 ops.size).filter fun i=>!((WQ ops.toList []).getD i []).contains pp)=List.range' 0 pp++pp::postI)
 (hreg:YK pp ft ops.toList=true) (hpan:yH pp ops.toList=true) (hn:(Qa.keys σi).Nodup) (hno:(Qa.keys σo).Nodup) (hsub:∀ id,id∈Qa.keys σo->id∈Qa.keys σi)
 (h:runS C true ops pre s K1 X1) (hk1:∀ s1,K1 s1->DetS C oc s1 σi (.pan p) σo K2) (hk2:∀ s2,K2 s2->runS C true ops post s2 K3 X2) (hk3:∀ sN,K3 sN->Far ft σi sN) (hk:K (.panic p) { s with τ:=qY ops.toList s.τ,σ:=σo++s.σ.less σi }):AW C (.region id ops true) K s:=fun E a hr=>by
 have hreg0:=hreg;unfold YK at hreg;simp only[Bool.and_eq_true,decide_eq_true_eq] at hreg;obtain⟨⟨⟨hok,hstb⟩,hpp⟩,_⟩:=hreg;have hR:=VE hok;have hS:=Jv hstb;rw[Array.toArray_toList] at hR hS;rw[Array.length_toList] at hpp;have hneat:Neat s:=⟨hr.store.nodup,fun k hk hm=>by
  obtain⟨b,_,hb⟩:=hr.store.mem hm;exact hb.born (hr.own k hk)⟩
 unfold yH at hpan;simp only[Bool.and_eq_true,Bool.not_eq_true'] at hpan;obtain⟨hself,hpan⟩:=hpan;have hself:pp∉(WQ ops.toList []).getD pp []:=fun hm=>by
  rw[List.contains_iff_mem.2 hm] at hself;cases hself
 have get:∀ {i:Nat} {o:Oper},ops[i]? = some o->(o,i)∈ops.toList.zipIdx:=fun {i o} hi=>by
  refine List.mem_zipIdx_iff_getElem?.2 ?_;simpa using hi
 have hpw:∀ i o,ops[i]? = some o->pp∉(WQ ops.toList []).getD i []->(i=pp∨QG o.op=false)/\∀ e∈o.after,Region.binds .any e=true->pp∉(WQ ops.toList []).getD e.on []/\e.on≠pp:=fun i o ho hni=>by
  have h1:=List.all_eq_true.1 hpan _ (get ho);simp only[Bool.or_eq_true,Bool.and_eq_true,Bool.not_eq_true',beq_iff_eq] at h1;rcases h1 with h1|⟨h1,h2⟩
  ·exact absurd (List.contains_iff_mem.1 h1) hni
  ·refine⟨h1,fun e he hb=>?_⟩;have:=List.all_eq_true.1 h2 e (by simpa using he);simp only[hb,Bool.not_true,Bool.false_or,Bool.and_eq_true,Bool.not_eq_true',bne_iff_ne] at this;exact⟨fun hm=>(by rw[List.contains_iff_mem.2 hm] at this;cases this.1),this.2⟩
 let is:=List.range' 0 pp++pp::postI
 have hmemI:∀ i,i∈is↔(i<ops.size/\pp∉(WQ ops.toList []).getD i []):=fun i=>by
  show i∈List.range' 0 pp++pp::postI↔_;rw[<- hI,List.mem_filter,List.mem_range'_1];simp only[Bool.not_eq_true',Bool.eq_false_iff,ne_eq,List.contains_iff_mem];constructor
  ·rintro⟨h1,h2⟩;exact⟨by omega,h2⟩
  ·rintro⟨h1,h2⟩;exact⟨⟨by omega,by omega⟩,h2⟩
 have hsort:is.Pairwise (· < ·):=by
  show (List.range' 0 pp++pp::postI).Pairwise (· < ·);rw[<- hI];exact List.Pairwise.filter _ List.pairwise_lt_range'
 have hsort2:(pp::postI).Pairwise (· < ·):=(List.pairwise_append.1 hsort).2.1;have hgt:∀ i∈postI,pp<i:=(List.pairwise_cons.1 hsort2).1;have hsz:∀ i∈postI,i<ops.size:=fun i hi=>((hmemI i).1 (List.mem_append_right _ (List.mem_cons_of_mem _ hi))).1;subst hpre;subst hpost;obtain⟨sN,D,hc,hf⟩:=XF (pp:=pp) (σi:=σi) (σo:=σo) (pv:=some p) (is2:=pp::postI) (Q:=fun sN=>Far ft σi sN) hS (List.range' 0 pp) s (fun i hi=>by
  have:=List.mem_range'_1.1 hi;omega) hsort hneat h fun s1 h1 hn1 e1 e2=>by
   refine vC (out:=.pan p) hS hoc hgt hn hno hsub hn1 (hk1 s1 h1) fun s2 h2 hn2 e3 e4=>?_;have:=XF (pp:=pp) (σi:=σi) (σo:=σo) (pv:=some p) (is2:=[]) (Q:=fun sN=>Far ft σi sN) hS postI s2 (fun i hi=>by
    have:=hgt i hi;exact⟨by omega,hsz i hi⟩) (by rw[List.append_nil];exact (List.pairwise_cons.1 hsort2).2) hn2 (hk2 s2 h2) fun s3 h3 hn3 _ _=>⟨s3,_,.nil hn3,hk3 s3 h3⟩
   rw[List.append_nil] at this;exact this
 have hppm:pp∈is:=List.mem_append_right _ List.mem_cons_self;have hD:=dataY hreg0 hf hsub hppm hc;obtain⟨p1,p2,p3,p4,p5⟩:=hc.at0 hppm;refine wp_region_any C.mixed ?_;have hrm:RelM C s.n s.lv (toMS s) E.bump a:=⟨fun t v hv=>(hr.tmp t v hv).mono ZJ,hr.size,⟨s.σ,VX hr.store,fun x=>Iff.rfl⟩,hr.glob.mono ZJ⟩
 obtain⟨m,hm⟩:∃ m,ops.size=is.length+m:=by
  have:is.length<=ops.size:=by
   show (List.range' 0 pp++pp::postI).length<=_;rw[<- hI];exact Nat.le_trans (List.length_filter_le _ _) (by rw[List.length_range'];exact Nat.le_refl _)
  exact⟨ops.size - is.length,by omega⟩
 have hfin:=yk (C:=C) (ops:=ops) (N:=s.n) (lv:=s.lv) hR hD (pp:=pp) (v:=p) p5 hself hpp (fun i o ho hni e he hb=>(hpw i o ho hni).2 e he hb) (fun i hip=>?_) (Q:=fun e a' w'=>∃ E' ae s',Post C K s E a e a' w' E' ae s') is m (Array.replicate ops.size false) (toMS s) E.bump a ?_ (by simp) hsort ?_ (by simp[hpp]) hrm hc.en ?_ ?_
 ·rw[<- hm] at hfin;exact hfin
 ·by_cases hin:i∈is
  ·obtain⟨h1,h2⟩:=(hmemI i).1 hin;obtain⟨o,ho⟩:∃ o,ops[i]? = some o:=⟨_,Array.getElem?_eq_getElem h1⟩
   have hw:QG o.op=false:=((hpw i o ho h2).1).resolve_left hip;obtain⟨e1,e2,e3⟩:=hc.reads i hin hip o ho hw;exact⟨e1,e2,e3,hc.pan i hin hip⟩
  ·exact (hc.off i hin).2
 ·intro i;rw[hmemI];constructor
  ·rintro⟨h1,h2⟩;exact⟨h1,by simp[h1],h2⟩
  ·rintro⟨h1,_,h2⟩;exact⟨h1,h2⟩
 ·intro i hi hli;simp[hi] at hli
 ·intro hw hnw;rw[p4] at hnw;cases hnw
 ·intro E' a' cv τ' hrep hτk hrm' hg hd hb;rw[p2,p3] at hrm' hg;obtain⟨σ',hst',hmem'⟩:=hrm'.store;have hmem2:∀ x,x∈σo++s.σ.less σi↔(x∈σo∨((toMS s).M x/\x.1∉Qa.keys σi)):=fun x=>by
   rw[List.mem_append,Qa.WV];rfl
  have hnd:(Qa.keys (σo++s.σ.less σi)).Nodup:=by
   unfold Qa.keys;rw[List.map_append,List.nodup_append];refine⟨hno,Qa.Yp hneat.nodup,fun a ha b hb e=>?_⟩;subst e;obtain⟨x,hx,rfl⟩:=List.mem_map.1 hb;exact (Qa.WV.1 hx).2 (hsub _ ha)
  have hrel:Rel C { s with τ:=qY ops.toList s.τ,σ:=σo++s.σ.less σi } E' a':=by
   refine⟨fun t v hv=>?_,hrm'.size,hst'.part (fun x hx=>(hmem' x).2 ((hmem2 x).1 hx)) hnd,fun k hk=>?_,hrm'.glob⟩
   ·obtain⟨h1,h2⟩:=VR hv;refine hrm'.tmp t v ?_;show τ' t=some v;rw[hτk t fun i o ho=>h2 o (by rw[<- Array.getElem?_toList] at ho;exact List.mem_of_getElem? ho)];exact h1
   ·exact hb (s.lv,k) (Nat.le_refl _) (fun hnw=>by rw[p4] at hnw;cases hnw) (hr.own k hk)
  exact⟨E',.panic p,_,rfl,.panic hrep,hk,hrel,qb.trans (hg s.σ _ (fun _=>Iff.rfl) hmem2),hd,rfl,fun id hi hu=>hb id (by omega) (fun hnw=>by rw[p4] at hnw;cases hnw) hu⟩
theorem DetS.of {oc:Oper} {s:ASt} {out:AOut} {K:ASt->Prop} {c:Call} {fo:Operand} {f:FuncId} {first cap args:List V} (h1:oc.op = .call c) (h2:c.callee = .value fo) (h3:oc.guard=none) (h5:lkA C s.τ fo=some (.func (.func f) first cap)) (h6:allV (lkA C s.τ) c.args.toList=some args)
 (h7:ADet C f (first++args++cap) σi out σo) (h4:WW s.n oc.dst=true) (h8:∀ x,x∈σi->x∈s.σ) (h9:K (({ s with σ:=σo++s.σ.less σi }:ASt).putD oc.dst out.val)):DetS C oc s σi out σo K:=
 ⟨c,fo,f,first,cap,args,h1,h2,h3,h4,h5,h6,h7,h8,h9⟩
theorem yy {K:QH->ASt->Prop} {st:List Fr} {id:Nat} {l:List Oper} {s:ASt} (pp:Nat) (ft:List Tmp) (σi σo:Qa) (v:V) {oc:Oper} {pre post:List Oper} (hoc:l.toArray[pp]? = some oc)
 (hpre:((List.range' 0 pp).filterMap fun i=>l.toArray[i]?)=pre) (hpost:((List.range' (pp+1) (l.length - pp - 1)).filterMap fun i=>l.toArray[i]?)=post)
 (hreg:YK pp ft l=true) (hn:(Qa.keys σi).Nodup) (hno:(Qa.keys σo).Nodup) (hsub:∀ id,id∈Qa.keys σo->id∈Qa.keys σi)
 (h:go C 1000000 (.ops l.toArray pre) [.draw] (fun _ s1=>DetS C oc s1 σi (.ret v) σo fun s2=>go C 1000000 (.ops l.toArray post) [.draw] (fun _ sN=>Far ft σi sN/\go C 1000000 .done st K sN) s2) s):Wait C (.region id l.toArray true) st K s:=fun _ hst=>
 Wiw pp ft σi σo v hoc hpre (by rw[List.size_toArray];exact hpost) hreg hn hno hsub
  (go_sound 1000000 (.ops l.toArray pre) [.draw] _ s (fun c e=>by cases e) rfl h) (fun _ h=>h)
  (fun s2 h=>go_sound 1000000 (.ops l.toArray post) [.draw] _ s2 (fun c e=>by cases e) rfl h)
  (fun sN h=>⟨h.1,go_sound _ _ _ _ _ (fun c e=>by cases e) hst h.2⟩)
theorem vX {K:QH->ASt->Prop} {st:List Fr} {id:Nat} {l:List Oper} {s:ASt} (pp:Nat) (ft:List Tmp) (σi σo:Qa) (p:V) {oc:Oper} {postI:List Nat} {pre post:List Oper} (hoc:l.toArray[pp]? = some oc)
 (hpre:((List.range' 0 pp).filterMap fun i=>l.toArray[i]?)=pre) (hpost:(postI.filterMap fun i=>l.toArray[i]?)=post)
 (hI:((List.range' 0 l.length).filter fun i=>!((WQ l []).getD i []).contains pp)=List.range' 0 pp++pp::postI)
 (hreg:YK pp ft l=true) (hpan:yH pp l=true) (hn:(Qa.keys σi).Nodup) (hno:(Qa.keys σo).Nodup) (hsub:∀ id,id∈Qa.keys σo->id∈Qa.keys σi)
 (h:go C 1000000 (.ops l.toArray pre) [.draw] (fun _ s1=>DetS C oc s1 σi (.pan p) σo fun s2=>go C 1000000 (.ops l.toArray post) [.draw] (fun _ sN=>Far ft σi sN) s2) s)
 (hk:K (.panic p) { s with τ:=qY l s.τ,σ:=σo++s.σ.less σi }):Wait C (.region id l.toArray true) st K s:=fun _ hst=>
 QGz pp ft σi σo p hoc hpre hpost (by rw[List.size_toArray];exact hI) hreg hpan hn hno hsub
  (go_sound 1000000 (.ops l.toArray pre) [.draw] _ s (fun c e=>by cases e) rfl h) (fun _ h=>h)
  (fun s2 h=>go_sound 1000000 (.ops l.toArray post) [.draw] _ s2 (fun c e=>by cases e) rfl h)
  (fun sN h=>h) (by rw[YQ];exact hk)
end
end Go.Awp
