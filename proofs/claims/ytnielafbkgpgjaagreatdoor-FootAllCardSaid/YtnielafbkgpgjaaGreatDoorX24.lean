/- AWP, text 34: a statement that draws its order, whose loads and stores lie apart. -/
import Derived.Test.YtnielafbkgpgjaaGreatDoorX21
import Derived.Test.YtnielafbkgpgjaaGreatDoorX23
import Derived.Recover
import Derived.Tactics
import Derived.Tactics2
import Derived.Lib.ByteType
set_option linter.all false
set_option maxRecDepth 100000
set_option maxHeartbeats 8000000
namespace Go.Awp
open Go
def YJ:Op->Bool
 | .load ..=>true
 | .store ..=>true
 | .mapUpdate ..=>true
 | .lookup ..=>true
 | .alloc _=>true
 | .call c=>match c.callee with|.builtin .len=>true|_=>false
 | _=>false
def tmpsOf (o:Oper):List Tmp:=o.op.operands.toList.filterMap fun x=>match x with|.tmp t=>some t|_=>none
def Jg (o:Oper):List Tmp:=if Xo o.op=true then (match o.dst with|some t=>[t]|none=>[]) else tmpsOf o
def pairZ (ap:List (Tmp × Tmp)) (o o':Oper):Bool:=
 ((!QG o'.op||WY o.op)&&(!QG o.op||WY o'.op)) ||
 (YJ o.op&&YJ o'.op&&(Jg o).all fun t=>(Jg o').all fun t'=>ap.contains (t,t')||ap.contains (t',t))
def allocOnce (ops:List Oper):Bool:=ops.zipIdx.all fun (o,i)=>!Xo o.op||(o.dst.isSome&&ops.zipIdx.all fun (o',j)=>!decide (i<j)||o'.dst != o.dst)
def Ul (ap:List (Tmp × Tmp)) (ops:List Oper):Bool:=
 let P:=WQ ops []
 uF ops&&wO ops&&allocOnce ops&&ops.zipIdx.all fun (o,i)=>ops.zipIdx.all fun (o',i')=>decide (i<=i')||(P.getD i []).contains i' || pairZ ap o o'
def Apart (ap:List (Tmp × Tmp)) (s:ASt):Prop:=∀ p,p∈ap->∀ v w,s.τ.lookup p.1=some v->s.τ.lookup p.2=some w->∀ id,id∈Qq v->id∉Qq w
section
variable {C:Ctx} {ops:Array Oper} {pp:Nat} {σi σo:Qa} {pv:Option V}
theorem touch_tmp {s:ASt} {o:Oper} {id:Id} (h:id∈touch (lkA C s.τ) o.op.operands.toList):∃ t v,t∈tmpsOf o/\s.τ.lookup t=some v/\id∈Qq v:=by
 obtain⟨x,v,hx,hv,hid⟩:=wV h;cases x with
 | tmp t=>exact⟨t,v,List.mem_filterMap.2 ⟨.tmp t,hx,rfl⟩,hv,hid⟩
 | const c=>rw[vd (show ofV c=some v from hv)] at hid;cases hid
 | global g=>
   obtain⟨u,_,rfl⟩:=Option.map_eq_some_iff.1 hv;cases hid
 | func f=>cases hv;cases hid
theorem dataZ {ap:List (Tmp × Tmp)} {is:List Nat} {s sN:ASt} {D:Nat->Awp.D} (hreg:Ul ap ops.toList=true) (hf:Apart ap sN) (hpp:∀ i∈is,i≠pp) (hc:ZZ pp σi σo pv C ops is s sN D):
 vR (fun i=>(WQ ops.toList []).getD i []) s.lv D ops.size:=by
 unfold Ul at hreg;simp only[Bool.and_eq_true] at hreg;obtain⟨⟨_,honce⟩,hpairs⟩:=hreg;have get:∀ {i:Nat} {o:Oper},ops[i]? = some o->(o,i)∈ops.toList.zipIdx:=fun {i o} hi=>by
  refine List.mem_zipIdx_iff_getElem?.2 ?_;simpa using hi
 have opAt:∀ i,i<ops.size->∃ o,ops[i]? = some o:=fun i hi=>⟨_,Array.getElem?_eq_getElem hi⟩
 have pair:∀ i i' o o',i' < i->ops[i]? = some o->ops[i']? = some o'->i'∉(WQ ops.toList []).getD i []->pairZ ap o o' = true:=fun i i' o o' hlt ho ho' hn=>by
  have h1:=List.all_eq_true.1 hpairs _ (get ho);have h2:=List.all_eq_true.1 h1 _ (get ho');simp only[Bool.or_eq_true,decide_eq_true_eq,List.contains_iff_mem] at h2;rcases h2 with (h2|h2)|h2
  ·omega
  ·exact absurd h2 hn
  ·exact h2
 have nil:Qa.keys []=[]:=rfl;have simp1:∀ i,i∈is->∀ o,ops[i]? = some o->YJ o.op=true->∀ id,(id∈Qa.keys (D i).ro∨id∈Qa.keys (D i).wi∨id∈Qa.keys (D i).wo)->∃ t v,t∈Jg o/\sN.τ.lookup t=some v/\id∈Qq v:=fun i hi o ho hs id hid=>by
  have hcall:ZO o.op=false:=by
   revert hs;cases o.op with
   | call c=>rcases c with⟨f,a,b⟩;cases f<;>simp[YJ,ZO]
   | _=>simp[YJ,ZO]
  by_cases hal:Xo o.op=true
  ·have hno:o.op.operands.toList=[]:=by revert hal;cases o.op<;>simp[Xo,Op.operands]
   have h1:=List.all_eq_true.1 honce _ (get ho);simp only[hal,Bool.not_true,Bool.false_or,Bool.and_eq_true] at h1;obtain⟨hds,hun⟩:=h1;obtain⟨t,ht⟩:=Option.isSome_iff_exists.1 hds;have hh:Jg o=[t]:=by unfold Jg;rw[if_pos hal,ht]
   rcases hid with h|h
   ·have:=hc.rdk i hi (hpp i hi) o ho hcall id h;rw[hno] at this;cases this
   ·obtain⟨v,hv,hv2⟩:=hc.alk i hi (hpp i hi) o t ho hal ht (fun i' _ hlt o' ho' e=>by
     have h2:=List.all_eq_true.1 hun _ (get ho');simp only[decide_eq_true hlt,Bool.not_true,Bool.false_or,bne_iff_ne] at h2;exact h2 (e.trans ht.symm)) id h
    exact⟨t,v,by rw[hh];exact List.mem_singleton.2 rfl,hv,hv2⟩
  ·have hh:Jg o=tmpsOf o:=by unfold Jg;rw[if_neg hal]
   rw[hh];refine touch_tmp (C:=C) ?_;rcases hid with h|h
   ·exact hc.rdk i hi (hpp i hi) o ho hcall id h
   ·by_cases hst:YF o.op=true
    ·exact hc.wrk i hi (hpp i hi) o ho hst id h
    ·have hw:QG o.op=false:=by
      revert hs hst hal;cases o.op with
      | call c=>
        rcases c with⟨f,a,b⟩
        cases f with
        | builtin b=>cases b<;>simp[YJ,YF,QG,Xo]
        | _=>simp[YJ,YF,QG,Xo]
      | _=>simp[YJ,YF,QG,Xo]
     obtain⟨e1,e2,_⟩:=hc.reads i hi (hpp i hi) o ho hw;rw[e1,e2] at h;simp[nil] at h
 have apart:∀ i i' o o',i∈is->i'∈is->ops[i]? = some o->ops[i']? = some o'->(YJ o.op&&YJ o'.op&&(Jg o).all fun t=>(Jg o').all fun t'=>ap.contains (t,t')||ap.contains (t',t))=true->
  ∀ id,(id∈Qa.keys (D i').ro∨id∈Qa.keys (D i').wi∨id∈Qa.keys (D i').wo)->¬ (id∈Qa.keys (D i).ro∨id∈Qa.keys (D i).wi∨id∈Qa.keys (D i).wo):=fun i i' o o' hi hi' ho ho' h id h1 h2=>by
  simp only[Bool.and_eq_true] at h;obtain⟨⟨hs,hs'⟩,hall⟩:=h;obtain⟨t',v',ht',hv',hid'⟩:=simp1 i' hi' o' ho' hs' id h1;obtain⟨t,v,ht,hv,hid⟩:=simp1 i hi o ho hs id h2;have:=List.all_eq_true.1 (List.all_eq_true.1 hall t ht) t' ht';simp only[Bool.or_eq_true,List.contains_iff_mem] at this;rcases this with h|h
  ·exact hf _ h v v' hv hv' id hid hid'
  ·exact hf _ h v' v hv' hv id hid' hid
 have offn:∀ {i},i∉is->∀ id,¬ (id∈Qa.keys (D i).ro∨id∈Qa.keys (D i).wi∨id∈Qa.keys (D i).wo):=fun {i} hi id h=>by
  obtain⟨e1,e2,e3,_⟩:=hc.off i hi;rw[e1,e2,e3] at h;simp[nil] at h
 refine⟨fun i i' hlt hi hn id hid=>?_,fun i i' hlt hi hn id hid=>?_,fun i i' hi hi' hne hw hw' e=>?_,fun i _=>hc.j1 i⟩
 ·obtain⟨o,ho⟩:=opAt i hi;obtain⟨o',ho'⟩:=opAt i' (by omega);have hq:=pair i i' o o' hlt ho ho' hn;by_cases hin':i'∈is
  ·by_cases hin:i∈is
   ·unfold pairZ at hq;rw[Bool.or_eq_true] at hq;rcases hq with hq|hq
    ·simp only[Bool.and_eq_true,Bool.or_eq_true,Bool.not_eq_true'] at hq;rcases hq.1 with hq|hq
     ·obtain⟨e1,e2,_⟩:=hc.reads i' hin' (hpp _ hin') o' ho' hq;rw[e1,e2] at hid;simp[nil] at hid
     ·obtain⟨e1,e2,e3⟩:=hc.idle i hin o ho hq;rw[e1,e2,e3];simp[nil]
    ·have:=apart i i' o o' hin hin' ho ho' hq id (.inr hid);exact⟨fun h=>this (.inl h),fun h=>this (.inr (.inl h)),fun h=>this (.inr (.inr h))⟩
   ·have:=offn hin id;exact⟨fun h=>this (.inl h),fun h=>this (.inr (.inl h)),fun h=>this (.inr (.inr h))⟩
  ·exact absurd (.inr hid) (offn hin' id)
 ·obtain⟨o,ho⟩:=opAt i hi;obtain⟨o',ho'⟩:=opAt i' (by omega);have hq:=pair i i' o o' hlt ho ho' hn;by_cases hin:i∈is
  ·by_cases hin':i'∈is
   ·unfold pairZ at hq;rw[Bool.or_eq_true] at hq;rcases hq with hq|hq
    ·simp only[Bool.and_eq_true,Bool.or_eq_true,Bool.not_eq_true'] at hq;rcases hq.2 with hq|hq
     ·obtain⟨e1,e2,_⟩:=hc.reads i hin (hpp _ hin) o ho hq;rw[e1,e2] at hid;simp[nil] at hid
     ·obtain⟨e1,_,_⟩:=hc.idle i' hin' o' ho' hq;rw[e1];simp[nil]
    ·exact fun h=>apart i i' o o' hin hin' ho ho' hq id (.inl h) (.inr hid)
   ·exact fun h=>offn hin' id (.inl h)
  ·exact absurd (.inr hid) (offn hin id)
 ·have inn:∀ {k},(D k).nw=true->k∈is:=fun {k} h=>by
   refine Classical.byContradiction fun hk=>?_;rw[(hc.off k hk).2.2.2.1] at h;cases h
  rcases Nat.lt_or_gt_of_ne hne with hlt|hlt
  ·have:=hc.j4 i (inn hw) i' (inn hw') hlt hw;rw[e] at this;omega
  ·have:=hc.j4 i' (inn hw') i (inn hw) hlt hw';rw[e] at this;omega
theorem Wiq {id:Nat} {K:QH->ASt->Prop} {s:ASt} {K1:ASt->Prop} {X1:V->ASt->Prop} (ap:List (Tmp × Tmp)) {l:List Oper} (hl:ops.toList=l)
 (hreg:Ul ap l=true) (h:runS C true ops l s K1 X1) (hk:∀ sN,K1 sN->Apart ap sN/\K .normal sN):AW C (.region id ops true) K s:=fun E a hr=>by
 subst hl;have hreg0:=hreg;unfold Ul at hreg;simp only[Bool.and_eq_true] at hreg;obtain⟨⟨⟨hok,hstb⟩,_⟩,_⟩:=hreg;have hR:=VE hok;have hS:=Jv hstb;rw[Array.toArray_toList] at hR hS;have hneat:Neat s:=⟨hr.store.nodup,fun k hk hm=>by
  obtain⟨b,_,hb⟩:=hr.store.mem hm;exact hb.born (hr.own k hk)⟩
 have hfm:((List.range' 0 ops.size).filterMap fun i=>ops[i]?)=ops.toList:=by
  have e1:∀ (l:List Oper) (k:Nat) (m:List Oper),m.length=k->((List.range' k l.length).filterMap fun i=>(m++l)[i]?)=l:=fun l=>by
   induction l with
   | nil=>intro k m _;rfl
   | cons x l ih=>
     intro k m hm;rw[List.length_cons,List.range'_succ,List.filterMap_cons,List.getElem?_append_right (by omega)];have h2:=ih (k+1) (m++[x]) (by simp[hm]);rw[List.append_assoc] at h2;simp only[List.singleton_append] at h2;rw[h2];simp[hm]
  have:=e1 ops.toList 0 [] rfl;simpa using this
 obtain⟨sN,D,hc,hf,hk⟩:=XF (pp:=ops.size) (σi:=[]) (σo:=[]) (pv:=none) (is2:=[]) (Q:=fun sN=>Apart ap sN/\K .normal sN) hS (List.range' 0 ops.size) s (fun i hi=>by
  have:=List.mem_range'_1.1 hi;omega) (by rw[List.append_nil];exact List.pairwise_lt_range') hneat (by rw[hfm];exact h) fun s3 h3 hn3 _ _=>⟨s3,_,.nil hn3,hk s3 h3⟩
 rw[List.append_nil] at hc;have hD:=dataZ (pp:=ops.size) hreg0 hf (fun i hi=>by have:=List.mem_range'_1.1 hi;omega) hc;refine wp_region_any C.mixed ?_;have hrm:RelM C s.n s.lv (toMS s) E.bump a:=⟨fun t v hv=>(hr.tmp t v hv).mono ZJ,hr.size,⟨s.σ,VX hr.store,fun x=>Iff.rfl⟩,hr.glob.mono ZJ⟩
 have hfin:=qc (C:=C) (ops:=ops) (N:=s.n) (lv:=s.lv) hR hD (Q:=fun e a' w'=>∃ E' ae s',Post C K s E a e a' w' E' ae s') (List.range' 0 ops.size) (Array.replicate ops.size false) (toMS s) E.bump a ?_ (by simp) ?_ ?_ hrm hc.en ?_ (fun i hi=>?_) ?_
 ·rw[List.length_range'] at hfin;exact hfin
 ·intro i;rw[List.mem_range'_1];constructor
  ·intro hi;have:i<ops.size:=by omega
   exact⟨this,by simp[this]⟩
  ·rintro⟨hi,_⟩;omega
 ·exact List.pairwise_lt_range'
 ·intro i hi hli;simp[hi] at hli
 ·intro i hi hw hnw;have hj1:=hc.j1 i;have hj2:=hc.j2 i hi;have:(D i).j=(s.lv,(D i).j.2):=by rw[<- hj1]
  rw[this];exact hr.own _ hj2
 ·exact hc.pan i hi (by have:=List.mem_range'_1.1 hi;omega)
 ·intro E' a' hrm' hg hd hb;rw[hc.app] at hrm' hg;obtain⟨σ',hst',hmem'⟩:=hrm'.store;have hrel:Rel C sN E' a':=by
   refine⟨hrm'.tmp,by rw[hc.n];exact hrm'.size,hst'.part (fun x hx=>(hmem' x).2 hx) hc.neat.nodup,fun k hk=>?_,hrm'.glob⟩;rw[hc.lv];refine hb (s.lv,k) (Nat.le_refl _) (fun i hi hnw e=>?_) (hr.own k (Nat.le_trans hc.nx hk));have:=hc.j3 i hi hnw;rw[<- e] at this;simp only at this;omega
  refine⟨E',.normal,sN,rfl,.normal,hk,hrel,qb.trans (hg s.σ sN.σ (fun _=>Iff.rfl) (fun _=>Iff.rfl)),hd,hc.lv,fun id hi hu=>hb id (by omega) (fun i _ _ e=>?_) hu⟩;have:=hc.j1 i;rw[<- e] at this;omega
theorem QJ {K:QH->ASt->Prop} {st:List Fr} {id:Nat} {l:List Oper} {s:ASt} (ap:List (Tmp × Tmp)) (hreg:Ul ap l=true)
 (h:go C 1000000 (.ops l.toArray l) [.draw] (fun _ sN=>Apart ap sN/\go C 1000000 .done st K sN) s):Wait C (.region id l.toArray true) st K s:=fun _ hst=>
 Wiq (ops:=l.toArray) ap rfl hreg (go_sound 1000000 (.ops l.toArray l) [.draw] _ s (fun c e=>by cases e) rfl h)
  (fun sN h=>⟨h.1,go_sound _ _ _ _ _ (fun c e=>by cases e) hst h.2⟩)
end
end Go.Awp
namespace Go.Awp.R1
open Go Go.Awp Go.Proofs Go.Awp.Sp
section
variable {C:Ctx} {E0:Amb} {σ0:Qa} {L:Nat} {R:Nat->AOut->Qa->Prop} {fn:Func}
def FinD (E0:Amb) (σ0:Qa) (L:Nat) (R:Nat->AOut->Qa->Prop) (e:Ending) (w':World):Prop:=
 ∃ E' o σ',E'.w=w'/\R L o σ'/\vO E' o e/\Qk E' σ'/\Grow E0 σ0 E' σ'/\∀ id:Id,id.1<L->E0.ι id = .unborn->E'.ι id = .unborn
structure From (E0:Amb) (σ0:Qa) (L:Nat) (E:Amb) (s:ASt):Prop where
 grow:Grow E0 σ0 E s.σ
 lv:s.lv=L
 born:∀ id:Id,id.1<L->E0.ι id = .unborn->E.ι id = .unborn
def ADf (C:Ctx) (E0:Amb) (σ0:Qa) (L:Nat) (R:Nat->AOut->Qa->Prop) (fn:Func) (c:Code) (s:ASt):Prop:=
 ∀ E a,Rel C s E a->a.defers=[]->From E0 σ0 L E s->c.wp C.P (bodyPostD C.P fn (FinD E0 σ0 L R)) a E.w
theorem From.post {K:QH->ASt->Prop} {s s':ASt} {E E':Amb} {a a':Act} {e:Exit} {w':World} {ae:QH} (h:From E0 σ0 L E s) (p:Post C K s E a e a' w' E' ae s'):From E0 σ0 L E' s':=
 ⟨h.grow.trans p.grow,p.lv.trans h.lv,fun id hi hu=>p.born id (by rw[h.lv];exact hi) (h.born id hi hu)⟩
theorem Qaz {s:ASt} {E:Amb} {a:Act} (hr:Rel C s E a) (hf:From E0 σ0 L E s) (h:Ends C fn L R .ret s):∃ v,(results fn a.tmps).run C.P E.w = .ok v E.w/\FinD E0 σ0 L R (.returned v) E.w:=by
 obtain⟨v,v',σd,σk,h1,h2,h3,h4,h5,h6,h7⟩:=h;obtain⟨cv,r1,r2⟩:=Qoz hr h1;obtain⟨q1,q2⟩:=Jy hr.store h2 h3 h4 h5;exact⟨cv,r1,E.sealed σd,_,σk,rfl,h7,.ret (wg hr.store h3 h6 cv r2),q1,hf.grow.trans q2,hf.born⟩
theorem adf_seq {x y:Code} {s:ASt} (h:AW C x (fun e s'=>match e with|.normal=>ADf C E0 σ0 L R fn y s'|.ret=>Ends C fn L R .ret s'|_=>False) s):ADf C E0 σ0 L R fn (.seq x y) s:=fun E a hr hd hf=>by
 refine wp_seq (wp_mono (h E a hr) ?_);rintro e a' w' ⟨E',ae,s',p⟩;have hx:=p.exit;have hk:=p.k;have hw:=p.w;have hd':a'.defers=[]:=p.defers.trans hd;subst hw;cases hx with
 | normal=>exact hk E' a' p.rel hd' (hf.post p)
 | ret=>
   show Leaves _ _ _ _ _ _ _;rw[hd'];exact Qaz p.rel (hf.post p) hk
 | exit=>exact hk.elim
 | goto=>exact hk.elim
 | panic hv=>exact hk.elim
end
theorem QHw {lk:Operand->Option V} {x:Operand} {v:V} (h:lk x=some (.iface 135 v)):QY TC.P lk (.typeAssert x 20 135 true)=some (.tup [v,.bool true]):=by
 rw[show QY TC.P lk (.typeAssert x 20 135 true)=(lk x).bind (fun v=>match v with|.iface u v=>if Qo TC.P 135 = .iface∨Qo TC.P 135 = .other∨u≠135 then none else some (if true=true then .tup [v,.bool true] else v)|_=>none) from by unfold QY;rfl,h];simp
theorem Vs {C:Ctx} {c:Code} {K:QH->ASt->Prop} {s:ASt} (hc:codeOk C.ex c=true) (h:go C 1000000 (.code c) [] K s):AW C c K s:=
 go_sound 1000000 (.code c) [] K s (fun c' e=>by cases e;exact hc) rfl h
theorem Wgz (p0 p1 p2:Value) (w:World):
 CallsD Tryz.prog 57 #[p0,p1,p2] .returning w fun e u' w'=>e = .returned (.tuple #[])/\u' = .returning/\w' = w:=by
 have hnn:∀ w,(binOp .neq 20 .nilIface .nilIface).run Tryz.prog w = .ok (.bool false) w:=fun w=>Lib.run_neq_nil_nil (ms:=#[]) w (by kernel_rfl);refine callsD_of_wpS Tryz.func57 rfl fun c₀ cs hu=>?_;apply wpS_seq;apply wpS_region;simp[wpOpsS,go_sem,recoverD,hu,Exit.thenS];apply wpS_seq;apply wpS_region;simp[wpOpsS,go_sem,hnn,Exit.thenS];refine wpS_cond (t:=false) (by simp[Act.eval,Array.replicate]) ?_;simp only[Bool.false_eq_true,if_false];refine wpS_of_wp (wp_skip ?_);cases c₀
 simp_all [bodyPostS,results]
theorem catch_pan {E:Amb} {L:Nat} {p0 p1 p2 cv:Value} {c0 c1 c2:V} {e:Er} {σ:Qa} (hσ:σ=[((L,0),.cells 77 [c0]),((L,1),.cells 3 [c1]),((L,2),.cells 70 [c2])])
 (h0:Rep E (.ptr (L,0) 0) p0) (h1:Rep E (.ptr (L,1) 0) p1) (h2:Rep E (.ptr (L,2) 0) p2) (hv:Rep E (Zo e) cv) (hs:Qk E σ) (hg:Xu TC E):
 CallsD Tryz.prog 57 #[p0,p1,p2] (.panicking [{ v:=cv,recovered:=false }]) E.w fun o u' w'=>o = .returned (.tuple #[])/\u' = .panicking [{ v:=cv,recovered:=true }]/\
  ∃ E',E'.w=w'/\Qk E' [((L,0),.cells 77 [.snil]),((L,1),.cells 3 [.int .i64 e.1]),((L,2),.cells 70 [.int .i64 e.2])]/\Xu TC E'/\Grow E σ E' [((L,0),.cells 77 [.snil]),((L,1),.cells 3 [.int .i64 e.1]),((L,2),.cells 70 [.int .i64 e.2])]/\∀ id:Id,id.1<=L->E.ι id = .unborn->E'.ι id = .unborn:=by
 obtain⟨N,hN⟩:=hs.fin;obtain⟨M,hM1,hM2⟩:∃ M,N<=M/\L<M:=⟨max N (L+1),by omega,by omega⟩
 refine callsD_of_wpS Tryz.func57 rfl fun c₀ cs hu=>?_;apply wpS_seq;apply wpS_region;simp[wpOpsS,go_sem,recoverD,hu,Exit.thenS];refine wpS_of_wp ?_;have hg5:Xu (TCe [5]) E:=hg;refine wp_mono (Vs (C:=TCe [5]) (s:=⟨[(0,.ptr (L,0) 0),(1,.ptr (L,1) 0),(2,.ptr (L,2) 0),(3,Zo e)],σ,22,M,0⟩) (K:=fun ae s'=>match ae with|.normal=>(∀ x,x∈[((L,0),Blk.cells 77 [.snil]),((L,1),.cells 3 [.int .i64 e.1]),((L,2),.cells 70 [.int .i64 e.2])]->x∈s'.σ)|_=>False) (by kernel_rfl) ?_ E _ ?_) ?_
 ·have m1:∀ i j:Nat,¬ (M,i)=(L,j):=fun i j e=>by cases e;omega
  have m2:∀ i j:Nat,¬ (L,j)=(M,i):=fun i j e=>by cases e;omega
  have m3:¬ M=L:=by omega
  have m4:¬ L=M:=by omega
  subst hσ;simp[Zo];rw[QHw (v:=.agg [.int .i64 e.1,.int .i64 e.2]) (by simp)];simp;refine QJ [(18,0),(18,17),(20,0),(20,17),(20,1),(20,19)] (by kernel_rfl) ?_;simp[m1,m2];intro q hq v w hv hw id hid;simp at hq;rcases hq with rfl|rfl|rfl|rfl|rfl|rfl<;>simp at hv hw<;>subst hv<;>subst hw<;>simp[Qq] at hid ⊢<;>simp[hid,m1]
 ·refine⟨fun t v hv=>?_,by simp,hs,fun k _=>hN (M,k) hM1,hg5⟩;simp only[List.lookup_cons,List.lookup_nil] at hv;split at hv
  ·rename_i e;have:=eq_of_beq e;subst this;cases hv;simpa using h0
  ·split at hv
   ·rename_i e;have:=eq_of_beq e;subst this;cases hv;simpa using h1
   ·split at hv
    ·rename_i e;have:=eq_of_beq e;subst this;cases hv;simpa using h2
    ·split at hv
     ·rename_i e;have:=eq_of_beq e;subst this;cases hv;simpa using ‹Rep E (Zo _) _›
     ·cases hv
 ·rintro o a' w' ⟨E',ae,s',p⟩;have hx:=p.exit;have hk:=p.k;have hw:=p.w;have hd:=p.defers;subst hw;cases hx with
  | normal=>
    have hst:Qk E' [((L,0),Blk.cells 77 [.snil]),((L,1),.cells 3 [.int .i64 e.1]),((L,2),.cells 70 [.int .i64 e.2])]:=p.rel.store.part hk (by simp[Qa.keys]);refine⟨hd,_,rfl,.tuple #[],by simp[results],rfl,rfl,E',rfl,hst,p.rel.glob,p.grow.drop fun id hid=>?_,fun i j hi hu=>p.born (i,j) (by show i<M;omega) hu⟩;obtain⟨x,hx,rfl⟩:=List.mem_map.1 hid;exact List.mem_map.2 ⟨x,hk x hx,rfl⟩
  | ret=>exact hk.elim
  | exit=>exact hk.elim
  | goto=>exact hk.elim
  | panic hv=>exact hk.elim
def deferR:Code:=.region 4 #[{ dst:=some 18,op:=.makeFunc (.func 57) #[] #[.tmp 2,.tmp 3,.tmp 4],type:=1,pos:= "parse.go:251",after:=#[],guard:=none },
 {dst:=none,op:=.defer { callee:=.value (.tmp 18),args:=#[],argTypes:=#[] },type:=0,pos:= "parse.go:251",after:=#[{ on:=0,ground:=.data }],guard:=none }] false
def KDef (L:Nat) (R:Nat->AOut->Qa->Prop):QH->ASt->Prop
 | .normal,s'=>Ends TC Tryz.f31 L R .ret s'
 | .ret,s'=>Ends TC Tryz.f31 L R .ret s'
 | .panic v,s'=>∃ e:Er,v=Zo e/\s'.τ.lookup 2=some (.ptr (L,0) 0)/\s'.τ.lookup 3=some (.ptr (L,1) 0)/\s'.τ.lookup 4=some (.ptr (L,2) 0)/\
    (∃ c0 c1 c2,∀ x,x∈[((L,0),Blk.cells 77 [c0]),((L,1),.cells 3 [c1]),((L,2),.cells 70 [c2])]->x∈s'.σ)/\R L (.ret (.tup [.agg [.slice []],.int .i64 e.1,.int .i64 e.2])) []
 | _,_=>False
theorem adf_defer {E0:Amb} {σ0:Qa} {L:Nat} {R:Nat->AOut->Qa->Prop} {rest:Code} {s:ASt} (h2:s.τ.lookup 2=some (.ptr (L,0) 0)) (h3:s.τ.lookup 3=some (.ptr (L,1) 0)) (h4:s.τ.lookup 4=some (.ptr (L,2) 0)) (h18:s.τ.lookup 18=none) (hN:s.n=38)
 (h:AW TC rest (KDef L R) s):ADf TC E0 σ0 L R Tryz.f31 (.seq deferR rest) s:=fun E a hr hd hf=>by
 have r2:=hr.tmp 2 _ h2;have r3:=hr.tmp 3 _ h3;have r4:=hr.tmp 4 _ h4;have hsz:18<a.tmps.size:=by have:=hr.size;omega
 have hmf:∀ (fn:Fn) (first cap:Array Value) (w:World),(Instr.makeFunc fn first cap).run Tryz.prog w = .ok (.func fn first cap) w:=fun _ _ _ _=>rfl;refine wp_seq (wp_region ?_);simp[wpOps,go_sem,Act.put,hd,hsz,Oper.upon];refine .inl (.inl ?_);simp only[Array.getD_eq_getD_getElem?] at r2 r3 r4;generalize a.tmps[2]?.getD undef=p2 at r2 ⊢;generalize a.tmps[3]?.getD undef=p3 at r3 ⊢;generalize a.tmps[4]?.getD undef=p4 at r4 ⊢;have hrel:Rel TC s E { tmps:=a.tmps.setIfInBounds 18 (Value.func (Fn.func 57) #[] #[p2,p3,p4]),defers:=[{ target:=Target.fn (Fn.func 57) #[p2,p3,p4],args:=#[] }] }:=by
  refine⟨fun t v hv=>?_,by simpa using hr.size,hr.store,hr.own,hr.glob⟩;have ht:t≠18:=fun e=>by subst e;rw[h18] at hv;cases hv
  have:=hr.tmp t v hv;simp only[Array.getD_eq_getD_getElem?] at this ⊢
  rwa [Array.getElem?_setIfInBounds_ne (Ne.symm ht)]
 refine wp_mono (h E _ hrel) ?_;rintro e a' w' ⟨E',ae,s',p⟩;have hx:=p.exit;have hk:=p.k;have hw:=p.w;have hd':=p.defers;have hf':=hf.post p;subst hw;have hcf:Sem.run TC.P (callFunc 57 #[p2,p3,p4]) E'.w = .ok (.enter 57 #[p2,p3,p4]) E'.w:=by
  have n1:¬ Tryz.f57.name = "runtime.NumGoroutine":=by decide
  have n2:¬ Tryz.f57.body=none:=by intro h;cases h
  have n3:TC.P.funcs[57]? = some Tryz.f57:=Tryz.func57;simp[callFunc,n1,n2,n3]
 have idle:Ends TC Tryz.f31 L R .ret s'->Leaves TC.P Tryz.f31 a'.tmps (FinD E0 σ0 L R) a'.defers .returning E'.w:=fun hk=>by
  rw[hd'];refine leaves_cons (f:=57) (args:=#[p2,p3,p4]) (by simp) (by simp[go_sem,hcf]) ?_;refine (Wgz p2 p3 p4 _).mono ?_;rintro o u' w'' ⟨rfl,rfl,rfl⟩;exact Qaz p.rel hf' hk
 cases hx with
 | normal=>exact idle hk
 | ret=>exact idle hk
 | exit=>exact hk.elim
 | goto=>exact hk.elim
 | panic hv=>
   obtain⟨e,rfl,k2,k3,k4,⟨c0,c1,c2,hc⟩,hR⟩:=hk;show Leaves TC.P Tryz.f31 a'.tmps (FinD E0 σ0 L R) a'.defers (.panicking _) E'.w;rw[hd'];have hlv:s'.lv=L:=hf'.lv;have hsub:∀ id,id∈Qa.keys [((L,0),Blk.cells 77 [c0]),((L,1),.cells 3 [c1]),((L,2),.cells 70 [c2])]->id∈s'.σ.keys:=fun id hid=>by
    obtain⟨x,hx,rfl⟩:=List.mem_map.1 hid;exact List.mem_map.2 ⟨x,hc x hx,rfl⟩
   have hst:=p.rel.store.part hc (by simp[Qa.keys]);refine leaves_cons (f:=57) (args:=#[p2,p3,p4]) (by simp) (by simp[go_sem,hcf]) ?_;refine (catch_pan (E:=E') (L:=L) (e:=e) rfl (r2.mono p.grow.le) (r3.mono p.grow.le) (r4.mono p.grow.le) hv hst p.rel.glob).mono ?_;rintro o u' w'' ⟨rfl,rfl,E2,rfl,q1,q2,q3,q4⟩;show Leaves TC.P Tryz.f31 a'.tmps (FinD E0 σ0 L R) [] .returning E2.w;have hgr:Grow E' s'.σ E2 [((L,0),Blk.cells 77 [.snil]),((L,1),.cells 3 [.int .i64 e.1]),((L,2),.cells 70 [.int .i64 e.2])]:=((Grow.refl E' s'.σ).drop hsub).trans q3;have hrel2:Rel TC ⟨[(2,.ptr (L,0) 0),(3,.ptr (L,1) 0),(4,.ptr (L,2) 0)],[((L,0),Blk.cells 77 [.snil]),((L,1),.cells 3 [.int .i64 e.1]),((L,2),.cells 70 [.int .i64 e.2])],s'.n,L,s'.nx⟩ E2 a':=by
    refine⟨fun t v hv=>?_,p.rel.size,q1,fun k hk=>q4 _ (Nat.le_refl _) (by have:=p.rel.own k hk;rwa [hlv] at this),q2⟩;have old:∀ t v,s'.τ.lookup t=some v->Rep E2 v (a'.tmps.getD t undef):=fun t v hv=>(p.rel.tmp t v hv).mono q3.le;simp only[List.lookup_cons,List.lookup_nil] at hv;split at hv
    ·rename_i e;have:=eq_of_beq e;subst this;cases hv;exact old _ _ k2
    ·split at hv
     ·rename_i e;have:=eq_of_beq e;subst this;cases hv;exact old _ _ k3
     ·split at hv
      ·rename_i e;have:=eq_of_beq e;subst this;cases hv;exact old _ _ k4
      ·cases hv
   refine Qaz hrel2 ⟨hf'.grow.trans hgr,rfl,fun id hi hu=>q4 id (by omega) (hf'.born id hi hu)⟩ ?_;refine⟨.tup [.agg [.snil],.int .i64 e.1,.int .i64 e.2],_,[],[],?_,by simp,by simp,by simp[Qa.keys],by simp[Qa.keys],.tup (.cons (.agg (.cons .snil .nil)) (.cons (.refl _) (.cons (.refl _) .nil))),hR⟩;simp[resV,Qf,Qj]
theorem numOf_ok {ds:Bs} {im:Bool} {z:Cx} (h:numOf ds im=some z):qS z:=by
 unfold numOf at h;split at h
 ·cases h
 ·split at h
  ·cases h
  ·rename_i hd;cases h;unfold qS;cases im<;>simp<;>omega
theorem Qjz {p:Nat} {l:Bs} {t:Tok} {n:Nat} (h:Wx p l = .ok (t,n)):qS t.num/\(t.kind=1->∃ c r,t.text=c::r/\QX c=true):=by
 have z0:qS ⟨0,0⟩:=by unfold qS;simp
 unfold Wx at h;split at h
 ·cases h
 ·rename_i c r;split at h
  ·rename_i hc;cases h;have hw:QU c=true:=by simp[QU,hc]
   exact⟨z0,fun _=>⟨c,r.takeWhile QU,by simp[hw],hc⟩⟩
  ·split at h
   ·obtain⟨z,_,hz,h⟩:=uH h;obtain⟨rfl,_⟩:=Prod.mk.inj h;exact⟨numOf_ok hz,fun h=>absurd h (by show ¬ (2:Int)=1;decide)⟩
   ·split at h
    ·cases h;exact⟨z0,fun h=>absurd h (by show ¬ (3:Int)=1;decide)⟩
    ·cases h
structure yu (n:Nat) (ts:List Tok):Prop where
 tok:TokL ts
 num:NumL ts
 word:WordL ts
 len:ts.length<=n+1
theorem yu.mono {n m:Nat} {ts:List Tok} (h:yu n ts) (hm:n<=m):yu m ts:=⟨h.tok,h.num,h.word,by have:=h.len;omega⟩
theorem ji:∀ (f p:Nat) (l:Bs) (ts:List Tok),lexL f p l = .ok ts->yu l.length ts
 | 0,p,l,ts,h=>by rw[lexL] at h;cases h
 | f+1,p,[],ts,h=>by
   rw[lexL] at h;cases h;exact⟨.inl ⟨rfl,rfl⟩,fun t ht=>by rw[List.mem_singleton.1 ht];exact⟨by simp,by simp,.inl rfl⟩,fun t ht hk=>by rw[List.mem_singleton.1 ht] at hk;exact absurd hk (by show ¬ (0:Int)=1;decide),by simp⟩
 | f+1,p,c::r,ts,h=>by
   rw[lexL] at h;split at h
   ·exact (ji f _ _ _ h).mono (by simp)
   ·split at h
    ·exact (ji f _ _ _ h).mono (by simp)
    ·split at h
     ·cases h
     ·rename_i t n ht;obtain⟨t1,t2,t3,t4,t5⟩:=Vy ht;obtain⟨g1,g2⟩:=Qjz ht;split at h
      ·cases h
      ·rename_i us hu;cases h;have k:=ji f _ _ _ hu;refine⟨.inr ⟨t5,k.tok⟩,fun x hx=>?_,fun x hx=>?_,?_⟩
       ·rcases List.mem_cons.1 hx with rfl|hx
        ·exact g1
        ·exact k.num x hx
       ·rcases List.mem_cons.1 hx with rfl|hx
        ·exact g2
        ·exact k.word x hx
       ·have:=k.len;simp at this t2 ⊢;omega
theorem qW {s:Bs} {ts:List Tok} (h:lexS s = .ok ts):yu s.length ts:=ji _ _ _ _ h
theorem QCw {f k:Nat} {l l2:List Tok} {e:Ex} (hl:TokL l) (h:exE f k l = .ok (e,l2)):TokL l2/\l2.length+1<=l.length:=by
 obtain⟨c,hc,ho⟩:=(vo f).1 _ _ _ _ hl h;have h0:1<=c:=by
  cases c with
  | zero=>exact ho.elim
  | succ=>omega
 exact⟨(ZF f).1 _ _ _ _ hl h,by omega⟩
theorem ZA (s:Bs) (l:List Tok):okR (QZ s l):=fun q h=>by
 unfold QZ at h;split at h
 ·cases h
 ·cases h
theorem UQ (l:List Tok):okR (WI l):=fun q h=>by
 unfold WI at h;split at h
 ·cases h
 ·cases h
theorem Qcq:∀ (f:Nat),(∀ k l,k<=3->TokL l->4*l.length+4<=f+k->okR (exE f k l))/\(∀ k e l,TokL l->4*l.length+1<=f->okR (chE f k e l))
 | 0=>⟨fun k l hk hl h=>by obtain⟨t,r,rfl,_⟩:=hl.cons;simp at h;omega,fun k e l hl h=>by omega⟩
 | f+1=>by
   obtain⟨ih1,ih2⟩:=Qcq f;refine⟨fun k l hk hl hf q h=>?_,fun k e l hl hf q h=>?_⟩
   ·have hlen:=hl.len;rw[exE] at h;split at h
    ·split at h
     ·rename_i h1;cases h;exact ih1 (k+1) l (by omega) hl (by omega) _ h1
     ·rename_i e1 l1 h1;obtain⟨k1,k2⟩:=QCw hl h1;exact ih2 _ _ l1 k1 (by omega) _ h
    ·split at h
     ·rename_i op hop;have ht:=hl.tail (ZM hop);split at h
      ·rename_i h1;cases h;exact ih1 3 l.tail (by omega) ht (by omega) _ h1
      ·cases h
     ·split at h
      ·cases h
      ·split at h
       ·rename_i hb;have ht:=hl.tail (QC hb);split at h
        ·rename_i h1;cases h;exact ih1 0 l.tail (by omega) ht (by omega) _ h1
        ·split at h
         ·rename_i h1;cases h;exact ZA _ _ _ h1
         ·cases h
       ·split at h
        ·rename_i h1;cases h;exact UQ _ _ h1
        ·cases h
   ·have hlen:=hl.len;rw[chE] at h;split at h
    ·cases h
    ·rename_i op hop;have ht:=hl.tail (YR hop);split at h
     ·rename_i h1;cases h;by_cases hk3:k+1<=3
      ·exact ih1 (k+1) l.tail hk3 ht (by omega) _ h1
      ·have:k≠0/\k≠1/\k≠2:=by omega
       unfold Zp QE at hop;split at hop<;>simp_all
     ·rename_i e1 l1 h1;obtain⟨k1,k2⟩:=QCw ht h1;split at h
      ·cases h
      ·exact ih2 _ _ l1 k1 (by omega) _ h
theorem jt {f:Nat} {l:List Tok} (hl:TokL l) (hf:4*l.length+4<=f):okR (Ww f l):=fun q h=>by
 unfold Ww at h;split at h
 ·rename_i h1;cases h;exact (Qcq f).1 0 l (by omega) hl (by omega) _ h1
 ·split at h
  ·cases h
  ·cases h
theorem zv {f:Nat}:∀ (n:Nat) (c:Bool) (l:List Tok),TokL l->4*l.length+4<=f->okR (wholes f c n l)
 | 0,c,l,hl,hf,q,h=>by rw[wholes] at h;cases h
 | n+1,c,l,hl,hf,q,h=>by
   rw[wholes] at h;split at h
   ·rename_i h1;cases h;cases c with
    | true=>exact ZA _ _ _ h1
    | false=>cases h1
   ·rename_i u l1 h1;have k1:Left 0 l l1:=by
     cases c with
     | true=>exact (Left.refl hl).trans (Wq hl h1) (by omega)
     | false=>cases h1;exact .refl hl
    have:=k1.2;split at h
    ·rename_i h2;cases h;exact jt k1.1 (by omega) _ h2
    ·rename_i x l3 h3;have k3:=(Xp k1.1 h3).1;have:=k3.2;split at h
     ·rename_i h4;cases h;exact zv n true l3 k3.1 (by omega) _ h4
     ·cases h
theorem uV {f:Nat} {l:List Tok} (hl:TokL l) (hf:4*l.length+4<=f):okR (Ut f l):=fun q h=>by
 rw[Zi] at h;split at h
 ·rename_i h1;cases h;unfold XK at h1;split at h1
  ·split at h1
   ·rename_i h2;cases h1;exact UQ _ _ h2
   ·split at h1
    ·rename_i h2;cases h1;exact ZA _ _ _ h2
    ·split at h1
     ·cases h1
     ·cases h1
  ·split at h1
   ·cases h1
   ·cases h1
 ·rename_i k reg l1 h1;have k1:=ZR hl h1;have:=k1.2;split at h
  ·rename_i h2;cases h;unfold WK at h2;split at h2
   ·split at h2
    ·rename_i h3;cases h2;exact UQ _ _ h3
    ·rename_i name l2 h3;have k2:=Wp k1.1 h3;have:=k2.2;split at h2
     ·rename_i hb;simp only[Bool.and_eq_true] at hb;have k3:=Left.tail k2.1 (QC hb.2);have:=k3.2;split at h2
      ·rename_i h4;cases h2;exact jt k3.1 (by omega) _ h4
      ·split at h2
       ·rename_i h4;cases h2;exact ZA _ _ _ h4
       ·cases h2
     ·cases h2
   ·cases h2
  ·rename_i name ix xs l2 h2;have k2:=Za k1.1 h2;have:=k2.2;split at h
   ·rename_i h3;cases h;exact zv _ _ l2 k2.1 (by omega) _ h3
   ·cases h
theorem yE:∀ (f:Nat),(∀ d l,TokL l->4*l.length+3<=f->okR (QT f d l))/\(∀ d l,TokL l->4*l.length+6<=f->okR (Xw f d l))/\(∀ d l,TokL l->4*l.length+5<=f->okR (Xl f d l))
 | 0=>⟨fun d l _ h=>by omega,fun d l _ h=>by omega,fun d l _ h=>by omega⟩
 | f+1=>by
   obtain⟨ihb,ihr,ihs⟩:=yE f;refine⟨fun d l hl hf q h=>?_,fun d l hl hf q h=>?_,fun d l hl hf q h=>?_⟩
   ·rw[QT] at h;split at h
    ·rename_i h1;cases h;exact ZA _ _ _ h1
    ·rename_i u l1 h1;have k1:=Wq hl h1;have:=k1.2;split at h
     ·cases h
     ·exact ihr _ l1 k1.1 (by omega) _ h
   ·rw[Xw] at h;split at h
    ·cases h
    ·split at h
     ·rename_i h1;cases h;exact ihs _ l hl (by omega) _ h1
     ·rename_i s l1 h1;have k1:=(Yc f).2.2 _ _ _ _ hl h1;have:=k1.2;split at h
      ·rename_i h2;cases h;exact ihr _ l1 k1.1 (by omega) _ h2
      ·cases h
   ·rw[Xl] at h;split at h
    ·rename_i h1;cases h;exact uV hl (by omega) _ h1
    ·rename_i k reg name ix xs r h1;have k1:=ZC hl h1;have:=k1.2;split at h
     ·split at h
      ·rename_i h2;cases h;exact ZA _ _ _ h2
      ·cases h
     ·split at h
      ·rename_i h2;cases h;exact ihb _ r k1.1 (by omega) _ h2
      ·rename_i body r2 h2;have k2:=(Yc f).1 _ _ _ _ k1.1 h2;have:=k2.2;split at h
       ·rename_i hb;have k3:=Left.tail k2.1 (QC hb.2);have:=k3.2;split at h
        ·rename_i h3;cases h;exact ihb _ r2.tail k3.1 (by omega) _ h3
        ·cases h
       ·cases h
theorem QRz (c:Cx) (l:List Tok):okR (second c l):=fun q h=>by
 unfold second at h;by_cases h1:c.im≠0
 ·rw[if_pos h1] at h;cases h
 ·rw[if_neg h1] at h;by_cases h2:(hd l).isB [45]=false/\(hd l).isB [43]=false
  ·rw[if_pos h2] at h;cases h
  ·rw[if_neg h2] at h;by_cases h3:(hd l.tail).kind≠2∨(hd l.tail).num.im=0
   ·rw[if_pos h3] at h;cases h
   ·rw[if_neg h3] at h;cases h
theorem Qsz (l:List Tok):okR (Wn l):=fun q h=>by
 rw[JG] at h;simp only at h;generalize (if (hd l).isB [45]=true then l.tail else l)=l1 at h;by_cases h1:(hd l1).kind≠2
 ·rw[if_pos h1] at h;cases h
 ·rw[if_neg h1] at h;exact QRz _ _ _ h
theorem yi {f:Nat} {l:List Tok} (hl:TokL l) (hf:4*l.length+3<=f) (h0:(hd l).kind≠0):okR (XU f l):=fun q h=>by
 have hlen:=hl.len;have ht:=hl.tail h0;unfold XU at h;simp only at h;split at h
 ·cases h
 ·split at h
  ·rename_i h1;cases h;split at h1
   ·cases h1
   ·exact UQ _ _ h1
  ·rename_i name r h1;have k1:Left 0 l.tail r:=by
    split at h1
    ·cases h1;exact .refl ht
    ·exact (Wp ht h1).trans (.refl (Wp ht h1).1) (by omega)
   have:=k1.2;split at h
   ·split at h
    ·rename_i h2;cases h;exact (yE f).1 _ r k1.1 (by omega) _ h2
    ·cases h
   ·split at h
    ·rename_i h2;cases h;split at h2
     ·cases h2
     ·exact Qsz _ _ h2
    ·split at h
     ·rename_i h2;cases h;exact ZA _ _ _ h2
     ·cases h
theorem Vi {t:Tok} (h:Wz t≠6):t.kind≠0:=fun h0=>h (Uh fun j _=>by simp[Tok.isB,h0])
theorem ZG {f:Nat} {l l2:List Tok} {d:Dc} (hl:TokL l) (h:XU f l = .ok (d,l2)):Left 1 l l2/\l2 <:+ l:=by
 unfold XU at h;simp only at h;split at h
 ·cases h
 ·rename_i hs;have k0:=Left.tail hl (Vi hs);have s0:=List.tail_suffix l;split at h
  ·cases h
  ·rename_i name r h1;have k1:Left 0 l.tail r/\r <:+ l.tail:=by
    split at h1
    ·cases h1;exact⟨.refl k0.1,List.suffix_refl _⟩
    ·exact⟨(Wp k0.1 h1).trans (.refl (Wp k0.1 h1).1) (by omega),YC h1⟩
   split at h
   ·split at h
    ·cases h
    ·rename_i b r2 h2;cases h;have k2:=(Yc f).1 _ _ _ _ k1.1.1 h2;exact⟨((k0.trans k1.1 (Nat.le_refl _)).trans k2 (by omega)),(((yD f).1 _ _ _ _ h2).trans k1.2).trans s0⟩
   ·split at h
    ·cases h
    ·rename_i z r2 h2;have k2:Left 0 r r2/\r2 <:+ r:=by
      split at h2
      ·cases h2;exact⟨.refl k1.1.1,List.suffix_refl _⟩
      ·have:=VM k1.1.1 h2;exact⟨this.1.trans (.refl this.1.1) (by omega),this.2⟩
     split at h
     ·cases h
     ·rename_i u r3 h3;cases h;exact⟨((k0.trans k1.1 (Nat.le_refl _)).trans k2.1 (Nat.le_refl _)).trans (Wq k2.1.1 h3) (by omega),(((XX h3).trans k2.2).trans k1.2).trans s0⟩
section
variable {C:Ctx} {E0:Amb} {σ0:Qa} {L:Nat} {R:Nat->AOut->Qa->Prop} {fn:Func}
def KA (N M:ASt->Prop):QH->ASt->Prop
 | .normal,s=>N s
 | .ret,s=>M s
 | _,_=>False
@[simp] theorem KA_normal {N M:ASt->Prop} {s:ASt}:KA N M .normal s=N s:=rfl
@[simp] theorem KA_ret {N M:ASt->Prop} {s:ASt}:KA N M .ret s=M s:=rfl
theorem wF {x y:Code} {s:ASt} (h:∀ N:ASt->Prop,(∀ s',ADf C E0 σ0 L R fn y s'->N s')->∀ M:ASt->Prop,(∀ s',Ends C fn L R .ret s'->M s')->AW C x (KA N M) s):ADf C E0 σ0 L R fn (.seq x y) s:=by
 refine adf_seq (aw_mono (h _ (fun _ h=>h) _ (fun _ h=>h)) fun e s' hk=>?_);cases e with
 | normal=>exact hk
 | ret=>exact hk
 | _=>exact hk.elim
theorem afn_adf {f:FuncId} {c:Code} {args:List V} {σ:Qa} (hf:C.P.funcs[f]? = some fn) (hb:fn.body=some c) (hname:(fn.name == "runtime.NumGoroutine")=false) (hn:args.length<=fn.ntmps)
 (h:∀ L E,(∀ id,id∈σ.keys->id.1<L)->ADf C E σ L R fn c ⟨Uc 0 args,σ,fn.ntmps,L,0⟩):AFn C f args σ R:=⟨⟨fn,hf,by rw[hb];rfl,hname⟩,fun E cargs L hs hg ha hL=>by
 refine calls_of_wp_defers hf hb ?_;have hlen:cargs.length=args.length:=ha.length;have hkeys:∀ id,id∈σ.keys->id.1<L:=fun id hi=>by
  obtain⟨k,_,hk⟩:=hs.mem hi;exact Nat.lt_of_not_le fun hle=>hk.born (hL id hle)
 have hrel:Rel C ⟨Uc 0 args,σ,fn.ntmps,L,0⟩ E { tmps:=cargs.toArray++Array.replicate (fn.ntmps - cargs.toArray.size) undef,defers:=[] }:=by
  refine⟨fun t v hv=>?_,by simp;omega,hs,fun k _=>hL (L,k) (Nat.le_refl _),hg⟩;have:=wD ha (List.replicate (fn.ntmps - cargs.length) undef) 0 t [] v rfl hv;have e:(cargs.toArray++Array.replicate (fn.ntmps - cargs.toArray.size) undef)=([]++cargs++List.replicate (fn.ntmps - cargs.length) undef).toArray:=by
   apply Array.ext';simp
  rw[e];simpa[Array.getD_eq_getD_getElem?,List.getD_eq_getElem?_getD] using this
 exact h L E hkeys E _ hrel rfl ⟨Grow.refl _ _,rfl,fun _ _ h=>h⟩⟩
theorem ends_of {rs:List ResultVar} {s:ASt} (hr:fn.results.toList=rs) (h:ZV C rs L R s):Ends C fn L R .ret s:=by
 subst hr;obtain⟨vs,v',σd,σk,h1,h2,h3,h4,h5,h6,h7⟩:=h;exact⟨_,v',σd,σk,by unfold resV;rw[h1];rfl,h2,h3,h4,h5,h6,h7⟩
end
theorem wC {ex:List Nat} {c:Code} {K:QH->ASt->Prop} {s:ASt} (h:AW (TCe ex) c K s):AW TC c K s:=fun E a hr=>
 wp_mono (h E a ⟨hr.tmp,hr.size,hr.store,hr.own,hr.glob⟩) fun _ _ _ ⟨E',ae,s',p⟩=>⟨E',ae,s',⟨p.w,p.exit,p.k,⟨p.rel.tmp,p.rel.size,p.rel.store,p.rel.own,p.rel.glob⟩,p.grow,p.defers,p.lv,p.born⟩⟩
def Zd (s:Bs):Except Er (List Dc):=if 16384<s.length then .error (0,2) else YI s
def parseRes:Except Er (List Dc)->V
 | .ok ds=>.tup [.agg [.slice (ds.map QO)],.int .i64 0,.int .i64 0]
 | .error e=>.tup [.agg [.slice []],.int .i64 e.1,.int .i64 e.2]
def preD (out:List Dc):Except Er (List Dc)->Except Er (List Dc)
 | .error e=>.error e
 | .ok ds=>.ok (out++ds)
structure XP where
 g:Nat
 ds:List Dc
 l:List Tok
structure JP (R:Except Er (List Dc)) (x:XP):Prop where
 tok:TokL x.l
 num:NumL x.l
 fuel:8*x.l.length+8<=x.g
 res:R=preD x.ds (Xj x.g x.l)
 len:x.ds.length+x.l.length<=20000
theorem wX {s:Bs} {e:Er} (h:lexS s = .error e):e.2≠0:=by
 have key:∀ (f p:Nat) (l:Bs) (e:Er),lexL f p l = .error e->e.2≠0:=fun f=>by
  induction f with
  | zero=>intro p l e h;rw[lexL] at h;cases h;simp
  | succ f ih=>
    intro p l e h;cases l with
    | nil=>rw[lexL] at h;cases h
    | cons c r=>
      rw[lexL] at h;split at h
      ·exact ih _ _ _ h
      ·split at h
       ·exact ih _ _ _ h
       ·split at h
        ·rename_i e1 h1;cases h;obtain⟨_,h2⟩:=jy (q:=e.1) (e:=e.2) h1;omega
        ·split at h
         ·rename_i h1;cases h;exact ih _ _ _ h1
         ·cases h
 exact key _ _ _ _ h
theorem Qlz (l:Bs):(∃ e:Er,Jw l = .tup [.slice [],.int .i64 e.1,.int .i64 e.2]/\e.2≠0/\Zd l = .error e)∨
 (∃ ts,Jw l = .tup [.slice (ts.map Qg),.int .i64 0,.int .i64 0]/\yu l.length ts/\l.length<=16384/\Zd l=Xj (8*ts.length+8) ts):=by
 unfold Jw Zd;by_cases h:16384<l.length
 ·rw[if_pos h,if_pos h];exact .inl ⟨(0,2),rfl,by decide,rfl⟩
 ·rw[if_neg h,if_neg h];unfold YI;rcases hr:lexS l with⟨p,e⟩|ts
  ·exact .inl ⟨(p,e),rfl,wX hr,rfl⟩
  ·exact .inr ⟨ts,rfl,qW hr,by omega,rfl⟩
theorem PParse_ok (l:Bs) (hl:l.length<=100000000000):Ql TC 31 [encS l] (parseRes (Zd l)):=by
 refine afn_adf Tryz.func31 rfl rfl (Nat.le_of_ble_eq_true rfl) fun L E hL=>?_;refine wF fun N hN M hM=>?_;refine wC (ex:=[3,7]) (Vs (by kernel_rfl) ?_);simp[Uc];refine hN _ (wF fun N hN M hM=>?_);refine wC (ex:=[3,7]) (Vs (by kernel_rfl) ?_);simp;refine Qe.pure (Split_ok l hl).up (by decide) ?_;rcases Qlz l with⟨e,hs,he,hp⟩|⟨ts,hs,hts,hlen,hp⟩
 ·rw[hs];have hb:(e.2 != 0)=true:=by simp[he]
  simp;refine hN _ (wF fun N hN M hM=>?_);refine wC (ex:=[3,7]) (Vs (by kernel_rfl) ?_);simp[hb];refine QJ [(3,2),(3,15),(4,2),(4,15),(4,3),(4,16)] (by kernel_rfl) ?_;simp;refine⟨?_,?_⟩
  ·intro q hq v w hv hw id hid;simp at hq;rcases hq with rfl|rfl|rfl|rfl|rfl|rfl<;>simp at hv hw<;>subst hv<;>subst hw<;>simp[Qq] at hid ⊢<;>simp[hid]
  ·refine hM _ (ends_of rfl (.pures (by simp[Qf,Qj];rfl) (by simp) ?_));rw[hp];exact .tup (.cons (.agg (.cons .snil .nil)) (.cons (.refl _) (.cons (.refl _) .nil)))
 ·rw[hs];simp;refine hN _ (wF fun N hN M hM=>?_);refine wC (ex:=[3,7]) (Vs (by kernel_rfl) ?_);simp;refine hN _ (adf_defer (by rfl) (by rfl) (by rfl) (by rfl) rfl ?_);refine wC (ex:=[3,7]) (Vs (by kernel_rfl) ?_);simp;refine Qw (Xf (id:=(L,0)) (o:=0) (el:=84) (sz:=5) (by simp[Qa.get];exact⟨rfl,rfl⟩) rfl (by decide)) ?_;refine QB (α:=XP) (JP (Zd l)) (fun x=>[(2,.ptr (L,0) 0),(3,.ptr (L,1) 0),(4,.ptr (L,2) 0),(6,.ptr (L,3) 0)]) (fun x=>[((L,4),.vec 84 5 (x.ds.map QO) x.ds.length true),((L,0),.cells 77 [.vec (L,4) x.ds.length]),((L,1),.cells 3 [.int .i64 0]),((L,2),.cells 70 [.int .i64 0]),((L,3),pblk x.l 0)]) (fun x=>x.g) ⟨8*ts.length+8,[],ts⟩ ⟨hts.tok,hts.num,Nat.le_refl _,by rw[hp];simp only;cases Xj (8*ts.length+8) ts<;>rfl,by have:=hts.len;simp only[List.length_nil];omega⟩ (Qb (by simp) (by simp[pblk]) (by simp)) ?_;rintro⟨g,ds,lx⟩ L1 K1 ⟨htok,hnum,hfuel,hres,hln⟩ hL1 - hnext hex hrt - hpn;simp only at htok hnum hfuel hres hln;obtain⟨hLL,m4,m5⟩:=llu L hL1;obtain⟨t,r,rfl,ht,htk⟩:=htok.cons;cases g with
  | zero=>omega
  | succ g=>
  rw[Xj] at hres;simp[pblk,Qg];rcases hk0:(t.kind != 0)
  ·have h0:t.kind=0:=by simpa using hk0
   rw[if_pos (by rw[ht];exact h0)] at hres;have hend:Zd l = .ok ds:=by rw[hres];simp[preD]
   simp;refine hex _ _ ?_;simp;show Ends TC Tryz.f31 L (fun _ o σ'=>o = .ret (parseRes (Zd l))/\σ' = []) .ret _;refine ends_of rfl (.keeps [((L,4),.vec 84 5 (ds.map QO) ds.length true)] [] (by simp[Qf,Qj];rfl) (by simp) (by simp) (by simp) (by simp[Qa.keys]) (by simp[Qa.keys]) ?_ ⟨rfl,rfl⟩);rw[hend];exact .tup (.cons (.agg (.cons (.vec (t:=84) (s:=5) (es:=ds.map QO) (wr:=true) (by simp) (Qn _)) .nil)) (.cons (.refl _) (.cons (.refl _) .nil)))
  ·have h0:t.kind≠0:=by simpa using hk0
   rw[if_neg (by rw[ht];exact h0)] at hres;have hlen8:4*(t::r).length+3<=g:=by omega
   have hdec:ADet TC 58 [.ptr (L,3) 0] [((L,3),pblk (t::r) 0)] (outP QO (XU g (t::r))) (stP (L,3) 0 (XU g (t::r))):=
    decl_ok g (t::r) htok hnum (by omega) (yi htok hlen8 (by rw[ht];exact h0)) (L,3)
   have hcall:=ADet.up (ex:=[3,7]) hdec;simp;rcases hr:XU g (t::r) with er|⟨d,l4⟩
   ·rw[hr] at hcall hres;refine qL 3 [30] [((L,3),pblk (t::r) 0)] [] (Zo er) [] [] rfl rfl (by kernel_rfl) (by kernel_rfl) (by kernel_rfl) (by simp[Qa.keys]) (by simp[Qa.keys]) (by simp[Qa.keys]) ?_ ?_
    ·simp;refine DetS.of rfl rfl rfl rfl rfl hcall rfl (by simp[pblk,Qg]) ?_;simp[AOut.val,ASt.putD];intro t ht v hv id hid;simp at ht;subst ht;simp at hv;subst hv;simp[Qq] at hid;subst hid;simp[Qa.keys]
    ·refine hpn _ _ ?_;refine⟨er,rfl,by simp[qY],by simp[qY],by simp[qY],⟨_,_,_,by simp;exact⟨rfl,rfl,rfl⟩⟩,?_⟩;rw[hres];exact⟨rfl,rfl⟩
   ·rw[hr] at hcall hres;have k4:=ZG htok hr;have hk4:=k4.1.2;have hres:Zd l=preD (ds++[d]) (Xj g l4):=by
     rw[hres];simp only;cases Xj g l4 with
     | error e=>rfl
     | ok y=>simp[preD]
    have c1:ds.length<=9223372036854775806:=by omega
    have c2:(ds.length+1)*72<=140737488355328:=by omega
    refine Zr 3 [30] [((L,3),pblk (t::r) 0)] [((L,3),pblk l4 0)] (QO d) rfl (by kernel_rfl) (by simp[Qa.keys]) (by simp[Qa.keys]) (by simp[Qa.keys]) ?_;simp;refine DetS.of rfl rfl rfl rfl rfl hcall rfl (by simp[pblk,Qg]) ?_;simp[AOut.val,ASt.putD,QO,Qu,c1,c2];refine⟨?_,?_⟩
    ·intro t ht v hv id hid;simp at ht;subst ht;simp at hv;subst hv;simp[Qq] at hid;subst hid;simp[Qa.keys]
    ·exact hnext _ ⟨g,ds++[d],l4⟩ ⟨k4.1.1,hnum.sub k4.2,by simp only;omega,hres,by simp;omega⟩ (by simp) (Qb (by simp) (by simp[QO,Qu]) (by simp))
end Go.Awp.R1
