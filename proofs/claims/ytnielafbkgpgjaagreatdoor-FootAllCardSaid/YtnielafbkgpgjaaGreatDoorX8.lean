/- AWP, text 15: a statement's operations, one behind the other. -/
import Derived.Test.YtnielafbkgpgjaaGreatDoorX7
set_option linter.all false
set_option maxRecDepth 100000
set_option maxHeartbeats 8000000
namespace Go.Awp
open Go
def VS (ops:Array Oper) (τ:List (Nat × V)) (o:Oper):Option Bool:=
 match o.guard with
 | none=>some true
 | some (j,want)=>match (ops[j]?).bind (·.dst) with
   | some t=>match τ.lookup t with
     | some (.bool b)=>some (b == want)
     | some (.tup [])=>some false
     | _=>none
   | none=>none
def WW (n:Nat):Option Tmp->Bool
 | none=>true
 | some t=>decide (t<n)
def ASt.putD (s:ASt) (dst:Option Tmp) (v:V):ASt:=
 match dst with
 | none=>s
 | some t=>{ s with τ:=(t,v)::s.τ }
def ASt.next (s:ASt) (nw:Bool):ASt:={ s with nx:=if nw=true then s.nx+1 else s.nx }
theorem jO (s:ASt):s.next false=s:=rfl
def opA (P:Program) (lk:Operand->Option V) (get:Id->Option Blk) (j:Id) (op:Op):Option (V × Upd):=
 match QY P lk op with
 | some v=>some (v,.none)
 | none=>match QN P lk get j op with
   | some r=>some r
   | none=>match Xc P lk get op with
     | some r=>some r
     | none=>match Ws P lk get j op with
       | some r=>some r
       | none=>WO P lk get j op
def opK (r:Option (V × Upd)) (K:V->Upd->Prop):Prop:=∃ v u,r=some (v,u)/\K v u
theorem qQ {v:V} {u:Upd} {K:V->Upd->Prop}:opK (some (v,u)) K=K v u:=by
 apply propext;exact⟨fun ⟨_,_,h,k⟩=>by cases h;exact k,fun h=>⟨v,u,rfl,h⟩⟩
def vW (C:Ctx) (f:FuncId) (args:List V) (s:ASt) (K X:V->Qa->Prop):Prop:=
 Enter C.P f/\∀ E cargs,Qk E s.σ->Xu C E->RepL E args cargs->
  Calls C.P f cargs.toArray E.w fun e w'=>∃ E',E'.w=w'/\(∀ id:Id,id.1<=s.lv->E.ι id = .unborn->E'.ι id = .unborn)/\
   ((∃ v cv σ',e = .returned cv/\Rep E' v cv/\K v σ'/\Qk E' σ'/\Grow E s.σ E' σ')∨
    (∃ v cv σ',e = .panicked [{ v:=cv,recovered:=false }]/\Rep E' v cv/\X v σ'/\Qk E' σ'/\Grow E s.σ E' σ'))
mutual
def V.flat:V->Bool
 | .bool _|.int _ _|.float _ _|.cplx _ _ _|.str _|.nilp|.snil|.nilf|.nili|.mnil=>true
 | .iface _ v=>v.flat
 | .agg cs=>V.zP cs
 | .tup cs=>V.zP cs
 | .func _ a b=>V.zP a&&V.zP b
 | _=>false
def V.zP:List V->Bool
 | []=>true
 | v::vs=>v.flat&&V.zP vs
end
def Qa.only (σ:Qa) (ids:List Id):Qa:=σ.filter fun x=>ids.contains x.1
def QuietC (C:Ctx) (f:FuncId) (args:List V) (s:ASt) (K:V->Qa->Prop):Prop:=
 ∃ args' v ids,Ql C f args' v/\FrzL (Qa.only s.σ ids) args args'/\(args' = args∨v.flat=true)/\K v s.σ
def vV (C:Ctx):Bool->FuncId->List V->ASt->(V->Qa->Prop)->(V->Qa->Prop)->Prop
 | true,f,args,s,K,_=>QuietC C f args s K
 | false,f,args,s,K,X=>vW C f args s K X
def callS (C:Ctx) (q:Bool) (fv:Option V) (vs:Option (List V)) (s:ASt) (K X:V->Qa->Prop):Prop:=
 ∃ f first cap args,fv=some (.func (.func f) first cap)/\vs=some args/\vV C q f (first++args++cap) s K X
theorem Whq {C:Ctx} {q:Bool} {f:FuncId} {first cap args:List V} {s:ASt} {K X:V->Qa->Prop}:callS C q (some (.func (.func f) first cap)) (some args) s K X=vV C q f (first++args++cap) s K X:=by
 apply propext;exact⟨fun ⟨_,_,_,_,h1,h2,k⟩=>by cases h1;cases h2;exact k,fun h=>⟨f,first,cap,args,rfl,rfl,h⟩⟩
def JC (C:Ctx) (o:Oper) (s:ASt) (K:ASt->Prop):Prop:=
 WW s.n o.dst=true/\opK (opA C.P (lkA C s.τ) s.σ.get (s.lv,s.nx) o.op) fun v u=>K ((({ s with σ:=u.app s.σ (s.lv,s.nx) }:ASt).next u.Wf).putD o.dst v)
def litS (C:Ctx) (dst:Option Tmp) (t len:Nat) (ps:List (Nat × Operand)) (s:ASt) (K:ASt->Prop):Prop:=
 WW s.n dst=true/\opK (litR C.P (lkA C s.τ) (s.lv,s.nx) t len ps) fun v u=>K ((({ s with σ:=u.app s.σ (s.lv,s.nx) }:ASt).next u.Wf).putD dst v)
def panS (r:Option V) (s:ASt) (X:V->ASt->Prop):Prop:=∃ t v,r=some (.iface t v)/\X (.iface t v) s
def ZL (C:Ctx) (q:Bool) (o:Oper) (s:ASt) (K:ASt->Prop) (X:V->ASt->Prop):Prop:=
 match o.op with
 | .call c=>match c.callee with
   | .value f=>WW s.n o.dst=true/\callS C q (lkA C s.τ f) (allV (lkA C s.τ) c.args.toList) s (fun v σ'=>K (({ s with σ:=σ' }:ASt).putD o.dst v)) (fun v σ'=>X v { s with σ:=σ' })
   | _=>JC C o s K
 | .buildSlice t len ps=>if (C.own.contains t && !q)=true then litS C o.dst t len ps.toList s K else JC C o s K
 | .panic x=>if q=true then False else panS (lkA C s.τ x) s X
 | _=>JC C o s K
def Br (b:Bool) (p q:Prop):Prop:=(b=true->p)/\(b=false->q)
def ZX (g:Option Bool) (p q:Prop):Prop:=
 match g with
 | some b=>Br b p q
 | none=>False
def runS (C:Ctx) (q:Bool) (ops:Array Oper):List Oper->ASt->(ASt->Prop)->(V->ASt->Prop)->Prop
 | [],s,K,_=>K s
 | o::r,s,K,X=>
   ZX (VS ops s.τ o) (ZL C q o s (fun s'=>runS C q ops r s' K X) X) (WW s.n o.dst=true/\runS C q ops r (s.putD o.dst (.tup [])) K X)
section
variable {C:Ctx} {ops:Array Oper}
theorem qm {s:ASt} {E:Amb} {a:Act} (hr:Rel C s E a) {o:Oper} {b:Bool} (h:VS ops s.τ o=some b):Region.wanted o (yielded ops a.tmps)=b:=by
 unfold VS at h;unfold Region.wanted;split at h
 ·rename_i e;cases h;rw[e]
 ·rename_i j want e;rw[e];split at h
  ·rename_i t ht;split at h
   ·rename_i bb hl;cases h;have hrep:=hr.tmp t _ hl;have:a.tmps.getD t undef = .bool bb:=by revert hrep;generalize a.tmps.getD t undef=y;intro hy;cases hy;rfl
    have h2:a.tmps[t]? = some (.bool bb):=by
     rw[Array.getD_eq_getD_getElem?] at this;cases h3:a.tmps[t]? with
     | none=>rw[h3] at this;simp[undef] at this
     | some y=>rw[h3] at this;simp at this;rw[this]
    have hy:yielded ops a.tmps j=some bb:=by unfold yielded;rw[ht];simp[h2]
    show (yielded ops a.tmps j == some want)=_;rw[hy];rfl
   ·rename_i hl;cases h;have hrep:=hr.tmp t _ hl;have:a.tmps.getD t undef = .tuple #[]:=by
     revert hrep;generalize a.tmps.getD t undef=y;intro hy;cases hy with|tup h=>cases h;rfl
    have hy:yielded ops a.tmps j=none:=by
     unfold yielded;rw[ht];rw[Array.getD_eq_getD_getElem?] at this;simp only[Option.bind_some];cases h3:a.tmps[t]? with
     | none=>rfl
     | some y=>rw[h3] at this;simp at this;rw[this]
    show (yielded ops a.tmps j == some want)=_;rw[hy];rfl
   ·cases h
  ·cases h
theorem Rel.put {s:ASt} {E:Amb} {a:Act} (hr:Rel C s E a) {dst:Option Tmp} {v:V} {cv:Value} (hd:WW s.n dst=true) (hv:Rep E v cv):Rel C (s.putD dst v) E (a.put dst cv):=by
 cases dst with
 | none=>exact hr
 | some t=>
   simp[WW] at hd;refine⟨fun u w hw=>?_,by simp only[Act.put,ASt.putD,Array.size_setIfInBounds];exact hr.size,hr.store,hr.own,hr.glob⟩;simp only[ASt.putD,List.lookup_cons] at hw;simp only[Act.put];split at hw
   ·rename_i e;have e:=eq_of_beq e;cases hw;subst e;rw[Array.getD_eq_getD_getElem?,Array.getElem?_setIfInBounds_self_of_lt (by rw[hr.size];exact hd)];exact hv
   ·rename_i e;have hne:t≠u:=fun e'=>by simp[e'] at e
    rw[Array.getD_eq_getD_getElem?,Array.getElem?_setIfInBounds_ne hne,<- Array.getD_eq_getD_getElem?];exact hr.tmp u w hw
theorem jK {o:Oper} {lk:Operand->Option V} {σ:Qa} {j:Id} {v:V} {u:Upd} (h:opA C.P lk σ.get j o.op=some (v,u)):OpOk C.P o lk σ j v (u.app σ j) u.Wf:=by
 unfold opA at h;split at h
 ·rename_i e;cases h;exact .pure e
 ·split at h
  ·rename_i r e;cases h;exact .store e
  ·split at h
   ·rename_i r e;cases h;exact .sub e
   ·split at h
    ·rename_i r e;cases h;exact .map e
    ·exact .vec h
theorem YO (s:ASt) (d:Option Tmp) (v:V):(s.putD d v).lv=s.lv/\(s.putD d v).σ=s.σ/\(s.putD d v).n=s.n/\(s.putD d v).nx=s.nx:=by
 cases d<;>exact⟨rfl,rfl,rfl,rfl⟩
theorem VC {K:QH->ASt->Prop} {s₀:ASt} {E₀:Amb} {a₀:Act}:∀ (l:List Oper) (k:Nat) (s:ASt) (E:Amb) (a:Act),(∀ j,l[j]? = ops[k+j]?)->Rel C s E a->Grow E₀ s₀.σ E s.σ->a.defers=a₀.defers->s.lv=s₀.lv->
 (∀ id:Id,id.1<s₀.lv->E₀.ι id = .unborn->E.ι id = .unborn)->runS C false ops l s (K .normal) (fun v=>K (.panic v))->
 wpOps C.P ops (fun e a' w'=>∃ E' ae s',Post C K s₀ E₀ a₀ e a' w' E' ae s') (List.range' k l.length) a E.w
 | [],k,s,E,a,_,hr,hg,hd,hl,hb,h=>by
   simp only[runS] at h;exact⟨E,.normal,s,rfl,.normal,h,hr,hg,hd,hl,hb⟩
 | o::l,k,s,E,a,hops,hr,hg,hd,hl,hb,h=>by
   have ho:ops[k]? = some o:=by have:=hops 0;simpa using this.symm
   have hops':∀ j,l[j]? = ops[k+1+j]?:=fun j=>by have:=hops (j+1);simpa[Nat.add_assoc,Nat.add_comm 1 j] using this
   rw[List.length_cons,List.range'_succ,wpOps_cons];unfold wpOp;simp only[ho];unfold runS ZX at h;have hnext:∀ {s1:ASt} {E1:Amb} {cv:Value} {v:V} {nw:Bool},Qk E1 s1.σ->E.Le E1->Xu C E->s1.τ=s.τ->s1.n=s.n->s1.lv=s.lv->s1.nx=s.nx->(∀ id,id.1<=s.lv->(nw=true->id≠(s.lv,s.nx))->E.ι id = .unborn->E1.ι id = .unborn)->WW s.n o.dst=true->Rep E1 v cv->
    Rel C ((s1.next nw).putD o.dst v) E1 (a.put o.dst cv):=by
    intro s1 E1 cv v nw hs hle hgl ht hn hlv hnx hb' hdo hv;refine Rel.put (s:=s1.next nw) ⟨fun t u hu=>?_,by show a.tmps.size=s1.n;rw[hn];exact hr.size,hs,fun q hq=>?_,hgl.mono hle⟩ (by show WW s1.n _=true;rw[hn];exact hdo) hv
    ·have hu:s1.τ.lookup t=some u:=hu;rw[ht] at hu;exact (hr.tmp t u hu).mono hle
    ·have hq:(if nw=true then s1.nx+1 else s1.nx)<=q:=hq;rw[hnx] at hq;show E1.ι (s1.lv,q) = .unborn;rw[hlv];exact hb' (s.lv,q) (Nat.le_refl _) (fun hn e=>by rw[if_pos hn] at hq;cases e;omega) (hr.own q (by split at hq<;>omega))
   split at h
   case h_2=>exact h.elim
   rename_i gb hga;obtain⟨hyes,hno⟩:=h;cases gb
   ·have h:=hno rfl;clear hyes hno;rw[if_neg (by rw[qm hr hga];simp)];have hn:=hnext (s1:=s) (E1:=E) (cv:=undef) (v:=.tup []) (nw:=false) hr.store (Amb.Le.refl E) hr.glob rfl rfl rfl rfl (fun _ _ _ h=>h) h.1 (.tup .nil);rw[jO] at hn;have hp:=YO s o.dst (.tup []);refine VC l (k+1) _ E _ hops' hn (by rw[hp.2.1];exact hg) (by cases o.dst<;>exact hd) (by rw[hp.1];exact hl) hb h.2
   ·have h:=hyes rfl;clear hyes hno;rw[if_pos (qm hr hga)];left;have any:WW s.n o.dst=true->∀ (v:V) (u:Upd),OpOk C.P o (lkA C s.τ) s.σ (s.lv,s.nx) v (u.app s.σ (s.lv,s.nx)) u.Wf->runS C false ops l ((({ s with σ:=u.app s.σ (s.lv,s.nx) }:ASt).next u.Wf).putD o.dst v) (K .normal) (fun v=>K (.panic v))->o.wp C.P a E.w (wpOps C.P ops (fun e a' w'=>∃ E' ae s',Post C K s₀ E₀ a₀ e a' w' E' ae s') (List.range' (k+1) l.length)) (fun e a' w'=>∃ E' ae s',Post C K s₀ E₀ a₀ e a' w' E' ae s'):=by
     intro hdo v u hop hk;obtain⟨E1,cv,hrun,hv,hs1,hg1,hb1⟩:=hop E a.eval hr.store (hr.own s.nx (Nat.le_refl _)) (fun x _ u hu=>qV hr hu);have hn:=hnext (s1:={ s with σ:=u.app s.σ (s.lv,s.nx) }) hs1 hg1.le hr.glob rfl rfl rfl rfl (nw:=u.Wf) (fun id _ hne hu=>hb1 id hne hu) hdo hv;have hp:=YO (({ s with σ:=u.app s.σ (s.lv,s.nx) }:ASt).next u.Wf) o.dst v;have rest:=VC l (k+1) _ E1 _ hops' hn (by rw[hp.2.1];exact hg.trans hg1) (by cases o.dst<;>exact hd) (by rw[hp.1];exact hl) (fun id hi hu=>hb1 id (fun _ e=>by subst e;simp only at hi;omega) (hb id hi hu)) hk;unfold Oper.wp;rcases hrun with hrun|⟨hrun,rfl⟩<;>rw[hrun]<;>exact rest
    have plain:JC C o s (fun s'=>runS C false ops l s' (K .normal) (fun v=>K (.panic v)))->o.wp C.P a E.w (wpOps C.P ops (fun e a' w'=>∃ E' ae s',Post C K s₀ E₀ a₀ e a' w' E' ae s') (List.range' (k+1) l.length)) (fun e a' w'=>∃ E' ae s',Post C K s₀ E₀ a₀ e a' w' E' ae s'):=by
     rintro⟨hdo,v,u,hop,hk⟩;exact any hdo v u (jK hop) hk
    unfold ZL at h;split at h
    ·rename_i c hc;split at h
     ·rename_i f hf;obtain⟨hdo,fn,first,cap,args,hfv,hvs,hcall⟩:=h;have hff:=qV hr hfv;have hargs:=UG hvs fun x _ v hv=>qV hr hv;obtain⟨fs,cs,hcf,hfirst,hcap⟩:∃ fs cs,a.eval f = .func (.func fn) (List.toArray fs) (List.toArray cs)/\RepL E first fs/\RepL E cap cs:=by
       revert hff;generalize a.eval f=y;intro hy;cases hy with|func h1 h2=>exact⟨_,_,rfl,h1,h2⟩
      obtain⟨⟨fd,hfd,hbody,hname⟩,hcall⟩:=hcall;have hcalls:=hcall E _ hr.store hr.glob ((hfirst.append hargs).append hcap);have hrun:(execOp a.eval o).run C.P E.w = .ok (.enter fn (fs++c.args.toList.map a.eval++cs).toArray) E.w:=by
       have e2:fs.toArray++c.args.map a.eval++cs.toArray=(fs++c.args.toList.map a.eval++cs).toArray:=by rw[<- toArray_map];simp
       simp only[execOp,hc,resolve,hf,Sem.run_bind,Sem.run_pure,Result.andThen_ok,hcf,Deferred.ofValue,invoke,e2];generalize (fs++c.args.toList.map a.eval++cs).toArray=ar;have hn':¬ fd.name = "runtime.NumGoroutine":=fun e=>by rw[e] at hname;simp at hname
       have hb':¬ fd.body=none:=fun e=>by rw[e] at hbody;cases hbody
       simp[callFunc,hfd,hn',hb']
      unfold Oper.wp;rw[hrun];refine Calls.mono hcalls ?_;rintro e w' ⟨E1,rfl,hb1,hres⟩;rcases hres with⟨v,cv,σ',rfl,hv,hk,hs1,hg1⟩|⟨v,cv,σ',rfl,hv,hk,hs1,hg1⟩
      ·have hn:=hnext (s1:={ s with σ:=σ' }) hs1 hg1.le hr.glob rfl rfl rfl rfl (nw:=false) (fun id hi _ hu=>hb1 id hi hu) hdo hv;rw[jO] at hn;have hp:=YO ({ s with σ:=σ' }:ASt) o.dst v;exact VC l (k+1) _ E1 _ hops' hn (by rw[hp.2.1];exact hg.trans hg1) (by cases o.dst<;>exact hd) (by rw[hp.1];exact hl) (fun id hi hu=>hb1 id (by omega) (hb id hi hu)) hk
      ·refine⟨E1,.panic v,{ s with σ:=σ' },rfl,.panic hv,hk,⟨fun t u hu=>(hr.tmp t u hu).mono hg1.le,hr.size,hs1,fun q hq=>hb1 (s.lv,q) (Nat.le_refl _) (hr.own q hq),hr.glob.mono hg1.le⟩,hg.trans hg1,hd,hl,fun id hi hu=>hb1 id (by omega) (hb id hi hu)⟩
     ·exact plain h
    ·rename_i t len ps hop;split at h
     ·obtain⟨hdo,v,u,hr',hk⟩:=h;exact any hdo v u (.lit hop hr') hk
     ·exact plain h
    ·rename_i x hx;rw[if_neg (by simp)] at h;obtain⟨t,v,hv,hk⟩:=h;have hrx:=qV hr hv;obtain⟨cv,hcv⟩:∃ cv,a.eval x = .iface t cv:=by revert hrx;generalize a.eval x=y;intro hy;cases hy;exact⟨_,rfl⟩
     have hrun:(execOp a.eval o).run C.P E.w = .halt (.panic (a.eval x)) E.w:=by
      simp only[execOp,hx,hcv,Instr.panic];rfl
     unfold Oper.wp;rw[hrun,Oper.upon_panic];exact⟨E,.panic (.iface t v),s,rfl,.panic hrx,hk,hr,hg,hd,hl,hb⟩
    ·exact plain h
theorem aw_region {id:Nat} {K:QH->ASt->Prop} {s:ASt} (h:runS C false ops ops.toList s (K .normal) (fun v=>K (.panic v))):AW C (.region id ops false) K s:=fun E a hr=>by
 refine wp_region ?_;have:=VC (C:=C) (ops:=ops) (K:=K) (s₀:=s) (E₀:=E) (a₀:=a) ops.toList 0 s E a (fun j=>by simp) hr (Grow.refl _ _) rfl rfl (fun _ _ h=>h) h;rw[Array.length_toList,<- List.range_eq_range'] at this;exact this
end
section
variable {C:Ctx} {E E':Amb}
theorem Rep.flat {v:V} {cv:Value} (h:Rep E v cv) (hf:v.flat=true):Rep E' v cv:=by
 revert hf
 induction h using Rep.rec (motive_2:=fun vs cvs _=>V.zP vs=true->RepL E' vs cvs) with
 | bool=>intro _;exact .bool _
 | int=>intro _;exact .int _ _
 | float=>intro _;exact .float _ _
 | cplx=>intro _;exact .cplx _ _ _
 | str=>intro _;exact .str _
 | nilp=>intro _;exact .nilp
 | snil=>intro _;exact .snil _
 | nilf=>intro _;exact .nilf
 | nili=>intro _;exact .nili
 | mnil=>intro _;exact .mnil
 | func h1 h2 i1 i2=>intro hf;simp[V.flat] at hf;exact .func (i1 hf.1) (i2 hf.2)
 | iface h ih=>intro hf;simp[V.flat] at hf;exact .iface (ih hf)
 | agg h hs ih=>intro hf;simp[V.flat] at hf;exact .agg (ih hf) hs
 | tup h ih=>intro hf;simp[V.flat] at hf;exact .tup (ih hf)
 | nil=>exact .nil
 | cons h t i1 i2=>rename_i hf;simp[V.zP] at hf;exact .cons (i1 hf.1) (i2 hf.2)
 | _=>intro hf;simp[V.flat] at hf
def Qa.less (σ s:Qa):Qa:=σ.filter fun x=>!(Qa.keys s).contains x.1
theorem Qa.WV {σ s:Qa} {x:Id × Blk}:x∈σ.less s↔x∈σ/\x.1∉Qa.keys s:=by
 unfold Qa.less;rw[List.mem_filter];simp
theorem Qa.Zh (σ:Qa):σ.less []=σ:=by
 unfold Qa.less;rw[List.filter_eq_self];intro x _;rfl
theorem Qa.Yp {σ s:Qa} (h:σ.keys.Nodup):(σ.less s).keys.Nodup:=by
 unfold Qa.less Qa.keys;exact List.Sublist.nodup (List.Sublist.map _ List.filter_sublist) h
theorem Uw (hs:∃ N,∀ id:Id,N<=id.1->E.ι id = .unborn) (lv:Nat):∃ L,lv<L/\∀ id:Id,L<=id.1->E.ι id = .unborn:=by
 obtain⟨N,hN⟩:=hs;exact⟨max N (lv+1),by omega,fun id hi=>hN id (by omega)⟩
theorem vL {f:FuncId} {args:List V} {s:ASt} {K X:V->Qa->Prop} {σin:Qa} {R:Nat->AOut->Qa->Prop} (h:AFn C f args σin R) (hs:∀ x,x∈σin->x∈s.σ) (hn:σin.keys.Nodup)
 (hk:∀ L o σ',s.lv<L->(∀ id,id∈s.σ.keys->id.1<L)->R L o σ'->match o with|.ret v=>K v (σ' ++ s.σ.less σin)|.pan v=>X v (σ' ++ s.σ.less σin)):vW C f args s K X:=by
 refine⟨h.1,fun E cargs hst hg ha=>?_⟩;obtain⟨L,hlv,hL⟩:=Uw hst.fin s.lv;have hkeys:∀ id,id∈s.σ.keys->id.1<L:=fun id hi=>by
  obtain⟨k,_,hk⟩:=hst.mem hi;exact Nat.lt_of_not_le fun hle=>hk.born (hL id hle)
 refine (h.2 E cargs L (hst.part hs hn) hg ha hL).mono ?_;rintro e w' ⟨E',o,σ',hw,hR,ho,hs',hg',hb⟩;obtain⟨f1,f2⟩:=frame hst hs (fun x hx=>(Qa.WV.1 hx).1) (fun id hi=>by
  obtain⟨x,hx,rfl⟩:=List.mem_map.1 hi;exact (Qa.WV.1 hx).2) (Qa.Yp hst.nodup) hs' hg'
 have hk':=hk L o σ' hlv hkeys hR;refine⟨E',hw,fun id hi hu=>hb id (by omega) hu,?_⟩;cases ho with
 | ret hv=>exact .inl ⟨_,_,_,rfl,hv,hk',f1,f2⟩
 | pan hv=>exact .inr ⟨_,_,_,rfl,hv,hk',f1,f2⟩
theorem qJ {f:FuncId} {args:List V} {s:ASt} {K X:V->Qa->Prop} {v:V} (h:Ql C f args v) (hk:K v s.σ):vW C f args s K X:=by
 refine vL h (by simp) (by simp[Qa.keys]) ?_;rintro L o σ' _ _ ⟨rfl,rfl⟩;simpa[Qa.Zh] using hk
theorem frzL_rep {σ:Qa} (hs:∀ id b,(id,b)∈σ->Wd E id b) {vs vs':List V} (h:FrzL σ vs vs') {cvs:List Value} (hr:RepL E vs cvs):RepL (E.sealed σ) vs' cvs:=by
 induction vs generalizing vs' cvs with
 | nil=>cases h;cases hr;exact .nil
 | cons v vs ih=>
   cases h with|cons a b=>
   cases hr with|cons c d=>exact .cons ((Wew hs a).rep _ c) (ih b d)
theorem wG {f:FuncId} {args args':List V} {s:ASt} {K X:V->Qa->Prop} {v:V} (h:Ql C f args' v) (hz:FrzL s.σ args args') (hf:v.flat=true) (hk:K v s.σ):vW C f args s K X:=by
 refine⟨h.1,fun E cargs hst hg ha=>?_⟩;obtain⟨L,hlv,hL⟩:=Uw hst.fin s.lv;obtain⟨q1,q2⟩:=Jy (σk:=[]) (σd:=s.σ) hst (by simp) (fun _ h=>h) (by simp[Qa.keys]) (by simp[Qa.keys]);refine (h.2 (E.sealed s.σ) cargs L q1 (hg.mono ZI) (frzL_rep hst.blk hz ha) hL).mono ?_;rintro e w' ⟨E1,o,σ',hw,⟨rfl,rfl⟩,ho,hs',hg',hb⟩;cases ho with|ret hv=>
 let E2:Amb:={ E1 with I:=fun b o=>E.I b o∨(E1.I b o/\E.w.heap.size<=b) }
 have hlt:∀ b,b<E.w.heap.size->E1.w.heap[b]? = E.w.heap[b]?:=fun b hb=>hg'.kept b hb fun ⟨id,hi,_⟩=>by simp[Qa.keys] at hi
 have hle:E.Le E2:=⟨fun b o h=>.inl h,fun b o hi=>World.cell?_of_block (hlt b (hst.imm b o hi)),fun id=>hg'.le.loc id,fun b es c hi h=>(hlt b (hst.imm b 0 hi)).trans h⟩
 have hsame:∀ id,E.ι id≠.unborn->E1.ι id=E.ι id:=fun id hu=>hg'.loc id (by simp[Qa.keys]) hu;refine⟨E2,hw,fun id hi hu=>hb id (by omega) hu,.inl ⟨_,_,_,rfl,hv.flat hf,hk,?_,?_⟩⟩
 ·refine⟨fun id b hm=>(hst.blk id b hm).keep hle (hsame id (hst.blk id b hm).born) (fun c hc=>hlt c ((hst.blk id b hm).size hc)) (fun c hc o hi=>?_),hst.nodup,fun i j hi hj hne b hbi hbj=>?_,fun b o hi=>?_,hs'.fin⟩
  ·rcases hi with hi|⟨_,hi⟩
   ·exact hi
   ·have:=(hst.blk id b hm).size hc;omega
  ·obtain⟨ki,_,hki⟩:=hst.mem hi;obtain⟨kj,_,hkj⟩:=hst.mem hj;have e1:E2.ι i=E.ι i:=hsame i hki.born;have e2:E2.ι j=E.ι j:=hsame j hkj.born;rw[e1] at hbi;rw[e2] at hbj;exact hst.apart i j hi hj hne b hbi hbj
  ·rcases hi with hi|⟨hi,_⟩
   ·exact Nat.lt_of_lt_of_le (hst.imm b o hi) hg'.size
   ·exact hs'.imm b o hi
 ·refine⟨hle,fun b hb _=>hlt b hb,fun b o hi=>hi.elim .inl fun h=>.inr (.inl h.2),fun id _ hu=>hsame id hu,fun id hi=>.inl hi,fun b ⟨id,hi,hb⟩=>.inr ⟨id,hi,?_⟩,hg'.os,hg'.tape,hg'.output,hg'.size⟩;obtain⟨k,_,hk⟩:=hst.mem hi;have e1:E2.ι id=E.ι id:=hsame id hk.born;rw[e1] at hb;exact hb
def sealB:Blk->Blk
 | .vec t s es ver _=>.vec t s es ver false
 | b=>b
def Qa.sealed (σ:Qa) (ids:List Id):Qa:=σ.map fun x=>if ids.contains x.1 then (x.1,sealB x.2) else x
theorem Qa.UM (σ:Qa) (ids:List Id):(σ.sealed ids).keys=σ.keys:=by
 unfold Qa.sealed Qa.keys;rw[List.map_map];congr 1;funext x;simp only[Function.comp];split<;>rfl
def Amb.fix (E:Amb) (σ:Qa):Amb:=
 {E with I:=fun b o=>E.I b o∨∃ id t s es ver wr,(id,Blk.vec t s es ver wr)∈σ/\(E.ι id).block=some b/\o<es.length*s }
theorem JZ {σ:Qa}:E.Le (E.fix σ):=⟨fun _ _ h=>.inl h,fun _ _ _=>rfl,fun _=>Loc.Le.refl _,fun _ _ _ _ h=>h⟩
mutual
inductive Fix (σ:Qa):V->V->Prop
 | refl (v:V):Fix σ v v
 | vec {id:Id} {ver:Nat} {t:TypeId} {s:Nat} {es es':List V} {wr:Bool} (h:σ.get id=some (.vec t s es ver wr)) (k:FixL σ es es'):Fix σ (.vec id ver) (.slice es')
 | agg {cs cs':List V} (h:FixL σ cs cs'):Fix σ (.agg cs) (.agg cs')
inductive FixL (σ:Qa):List V->List V->Prop
 | nil:FixL σ [] []
 | cons {v v':V} {vs vs':List V} (h:Fix σ v v') (k:FixL σ vs vs'):FixL σ (v::vs) (v' :: vs')
end
theorem FixOk.refl {σ:Qa} (v:V):vP E (E.fix σ) v v:=⟨fun _ h=>h.mono JZ,fun _ h=>h.mono JZ,rfl,fun h=>h,fun h=>h⟩
theorem fix_ok {σ:Qa} (hs:∀ id b,(id,b)∈σ->Wd E id b) {v v':V} (h:Fix σ v v'):vP E (E.fix σ) v v':=by
 induction h using Fix.rec (motive_2:=fun vs vs' _=>Qhw E (E.fix σ) vs vs') with
 | refl v=>exact FixOk.refl v
 | @vec id ver t s es es' wr h k ih=>
   refine .VJ (fun cv hr=>?_) rfl rfl rfl;have hm:=Qa.get_mem h;obtain⟨hv,xs,eι,rfl,hown,hxs,hes,h0,hI⟩:=UJ hr (hs _ _ hm);have hel:=ih.elems s hes;have hfl:=ih.flat _ hxs;rcases hown.2 with⟨a,rfl,e3⟩|⟨g,cap,cur,hc0,rfl,hg,hcap,_,hsz,htk⟩
   ·have:es' = []:=List.eq_nil_of_length_eq_zero (by rw[ih.len];exact e3);subst this;exact .slice0 _ _
   ·rw[<- ih.len];refine .slice (cvs:=xs) hfl (fun j u hj=>⟨?_,.inr ⟨id,t,s,es,ver,wr,hm,by rw[eι];simp[Loc.block,hblk];omega,?_⟩⟩) hel (by rw[ih.len];exact hcap)
    ·show E.w.cell? _=_;unfold World.cell?;simp only[hg,Option.isSome_none,Bool.false_eq_true,if_false,Nat.zero_add];rw[<- htk,List.getElem?_take] at hj;split at hj
     ·simpa using hj
     ·cases hj
    ·have:=(List.getElem?_eq_some_iff.1 hj).1;rw[hown.1] at this;omega
 | agg h ih=>exact⟨fun cv hr=>by cases hr with|agg hr hsc=>exact .agg (ih.rep _ hr) (ih.scal hsc),ih.rep,ih.len,fun ho=>ih.scal ho,fun h=>by simp[V.scalar] at h⟩
 | nil=>exact⟨fun _ h=>h.mono JZ,fun _ h=>h.mono JZ,rfl,fun _ h=>h,fun h=>h⟩
 | cons h k i1 i2=>
   refine⟨fun cvs hr=>?_,fun cvs hr=>?_,by simp[i2.len],fun s hs e he=>?_,fun hs e he=>?_⟩
   ·cases hr with|cons a b=>exact .cons (i1.rep _ a) (i2.rep _ b)
   ·simp only[List.flatMap_cons] at hr ⊢;obtain⟨a,b,rfl,ha,hb⟩:=hr.split;exact (i1.cells _ ha).append (i2.flat _ hb)
   ·rcases List.mem_cons.1 he with rfl|he
    ·have:=hs _ List.mem_cons_self;exact⟨i1.len.trans this.1,i1.ok this.2⟩
    ·exact i2.elems s (fun e he=>hs e (List.mem_cons_of_mem _ he)) e he
   ·rcases List.mem_cons.1 he with rfl|he
    ·exact i1.scal (hs _ List.mem_cons_self)
    ·exact i2.scal (fun e he=>hs e (List.mem_cons_of_mem _ he)) e he
theorem fix_store {σ:Qa} (hs:Qk E σ) (ids:List Id):Qk (E.fix (σ.only ids)) (σ.sealed ids)/\Grow E σ (E.fix (σ.only ids)) (σ.sealed ids):=by
 have hmem:∀ x,x∈σ.only ids->x∈σ/\ids.contains x.1=true:=fun x hx=>by
  unfold Qa.only at hx;exact List.mem_filter.1 hx
 have hown:∀ b o,(E.fix (σ.only ids)).I b o->E.I b o∨∃ id t s es ver wr,(id,Blk.vec t s es ver wr)∈σ/\ids.contains id=true/\(E.ι id).block=some b/\o<es.length*s:=fun b o hi=>by
  rcases hi with hi|⟨id,t,s,es,ver,wr,hm,hb,ho⟩
  ·exact .inl hi
  ·exact .inr ⟨id,t,s,es,ver,wr,(hmem _ hm).1,(hmem _ hm).2,hb,ho⟩
 have uniq:∀ {i j:Id} {k k':Blk} {b:Nat},(i,k)∈σ->(j,k')∈σ->(E.ι i).block=some b->(E.ι j).block=some b->i=j/\k=k':=fun {i j k k' b} hi hj hbi hbj=>by
  have e:i=j:=Classical.byContradiction fun hne=>hs.apart i j (List.mem_map.2 ⟨_,hi,rfl⟩) (List.mem_map.2 ⟨_,hj,rfl⟩) hne b hbi hbj;subst e;refine⟨rfl,?_⟩;have hn:=hs.nodup;clear hown hmem;revert hn
  induction σ with
  | nil=>cases hi
  | cons x r ih=>
    intro hn;have hnd:=List.nodup_cons.1 hn;rcases List.mem_cons.1 hi with e|hi'<;>rcases List.mem_cons.1 hj with e'|hj'
    ·rw[<- e] at e';cases e';rfl
    ·subst e;exact absurd (List.mem_map.2 ⟨_,hj',rfl⟩) hnd.1
    ·subst e';exact absurd (List.mem_map.2 ⟨_,hi',rfl⟩) hnd.1
    ·exact ih ⟨fun id b hm=>hs.blk id b (List.mem_cons_of_mem _ hm),hnd.2,fun i j hi hj=>hs.apart i j (List.mem_cons_of_mem _ hi) (List.mem_cons_of_mem _ hj),hs.imm,hs.fin⟩ hi' hj' hnd.2
 refine⟨⟨fun id b hm=>?_,by rw[Qa.UM];exact hs.nodup,by rw[Qa.UM];exact hs.apart,fun b o hi=>?_,hs.fin⟩,?_⟩
 ·obtain⟨⟨id',k⟩,hk,e⟩:=List.mem_map.1 hm;simp only at e;have hblk:=hs.blk id' k hk;split at e
  ·rename_i hc;cases e;cases k with
   | cells t cs=>
     refine hblk.keep JZ rfl (fun _ _=>rfl) fun c hcb o hi=>?_;rcases hown c o hi with hi|⟨j,t',s',es',ver',wr',hj,_,hjb,_⟩
     ·exact hi
     ·have:=(uniq hk hj hcb hjb).2;cases this
   | map ks vs clk=>
     refine hblk.keep JZ rfl (fun _ _=>rfl) fun c hcb o hi=>?_;rcases hown c o hi with hi|⟨j,t',s',es',ver',wr',hj,_,hjb,_⟩
     ·exact hi
     ·have:=(uniq hk hj hcb hjb).2;cases this
   | vec t s es ver wr=>
     obtain⟨hv,xs,eι,ho,hr,hes,h0,hI⟩:=hblk;refine⟨hv,xs,eι,ho,hr.mono JZ,hes,h0,fun b hb o hi=>⟨rfl,?_⟩⟩;rcases hown b o hi with hi|⟨j,t',s',es',ver',wr',hj,_,hjb,hlt⟩
     ·exact (hI b hb o hi).2
     ·have:=(uniq hk hj (by rw[eι];exact hb) hjb).2;cases this;exact hlt
  ·rename_i hc;cases e;refine hblk.keep JZ rfl (fun _ _=>rfl) fun c hcb o hi=>?_;rcases hown c o hi with hi|⟨j,t',s',es',ver',wr',hj,hjc,hjb,_⟩
   ·exact hi
   ·have:=(uniq hk hj hcb hjb).1;subst this;exact absurd hjc hc
 ·rcases hown b o hi with hi|⟨j,t',s',es',ver',wr',hj,_,hjb,_⟩
  ·exact hs.imm b o hi
  ·exact (hs.blk _ _ hj).size hjb
 ·refine⟨JZ,fun _ _ _=>rfl,fun b o hi=>?_,fun _ _ _=>rfl,fun id hi=>.inl (by rw[Qa.UM] at hi;exact hi),fun b ⟨id,hi,hb⟩=>.inr ⟨id,by rw[Qa.UM] at hi;exact hi,hb⟩,rfl,rfl,rfl,Nat.le_refl _⟩;rcases hown b o hi with hi|⟨j,t',s',es',ver',wr',hj,_,hjb,_⟩
  ·exact .inl hi
  ·exact .inr (.inr ⟨j,List.mem_map.2 ⟨_,hj,rfl⟩,hjb⟩)
theorem fixL_rep {σ:Qa} (hs:∀ id b,(id,b)∈σ->Wd E id b) {vs vs':List V} (h:FixL σ vs vs') {cvs:List Value} (hr:RepL E vs cvs):RepL (E.fix σ) vs' cvs:=by
 induction vs generalizing vs' cvs with
 | nil=>cases h;cases hr;exact .nil
 | cons v vs ih=>
   cases h with|cons a b=>
   cases hr with|cons c d=>exact .cons ((fix_ok hs a).rep _ c) (ih b d)
theorem Wjz {f:FuncId} {args args':List V} {s:ASt} {K X:V->Qa->Prop} {v:V} (ids:List Id) (h:Ql C f args' v) (hz:FixL (s.σ.only ids) args args') (hk:K v (s.σ.sealed ids)):vW C f args s K X:=by
 refine⟨h.1,fun E cargs hst hg ha=>?_⟩;obtain⟨q1,q2⟩:=fix_store hst ids;have ha':=fixL_rep (fun id b hm=>hst.blk id b (by unfold Qa.only at hm;exact (List.mem_filter.1 hm).1)) hz ha;have hc:=(qJ (s:={ s with σ:=s.σ.sealed ids }) (K:=K) (X:=X) h hk).2 (E.fix (s.σ.only ids)) cargs q1 (hg.mono JZ) ha';refine hc.mono ?_;rintro e w' ⟨E1,hw,hb,hres⟩;refine⟨E1,hw,fun id hi hu=>hb id hi hu,?_⟩;rcases hres with⟨v,cv,σ',h1,h2,h3,h4,h5⟩|⟨v,cv,σ',h1,h2,h3,h4,h5⟩
 ·exact .inl ⟨v,cv,σ',h1,h2,h3,h4,q2.trans h5⟩
 ·exact .inr ⟨v,cv,σ',h1,h2,h3,h4,q2.trans h5⟩
end
end Go.Awp
