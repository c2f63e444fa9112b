/- AWP, text M1: maps whose keys are texts or numbers. -/
import Derived.Test.YtnielafbkgpgjaaGreatDoorX6
import Derived.WideLaws
import Derived.MapKept
import Derived.Deep.LoopGhost
import Derived.ScopeJumps
set_option linter.all false
set_option maxRecDepth 100000
set_option maxHeartbeats 8000000
namespace Go.Awp
open Go
def mapT (P:Program) (t:TypeId):Option (TypeId × TypeId):=(P.underlying t).bind fun|.map k e=>some (k,e)|_=>none
theorem wW {P:Program} {t k e:TypeId} (h:mapT P t=some (k,e)):P.underlying t=some (.map k e):=by
 unfold mapT at h;cases hu:P.underlying t with
 | none=>simp[hu] at h
 | some d=>cases d<;>simp[hu] at h;obtain⟨rfl,rfl⟩:=h;rfl
def JT:V->V->Option Bool
 | .str a,.str b=>some (a == b)
 | .int k a,.int k' b=>if k=k' then some (a == b) else none
 | _,_=>none
def Vn (P:Program) (t:TypeId):V->Bool
 | .str _=>Qo P t == .str
 | .int k _=>Qo P t == .int k
 | _=>false
def Jd (k:V):List V->Nat->Option (Option Nat)
 | [],_=>some none
 | x::r,i=>match JT k x with
   | some true=>some (some i)
   | some false=>Jd k r (i+1)
   | none=>none
def XS (P:Program) (t:TypeId) (ks vs:List V) (k:V) (ok:Bool):Option V:=
 (mapT P t).bind fun (kt,et)=>if Vn P kt k=true then (Jd k ks 0).bind fun
   | some i=>(vs[i]?).map fun v=>if ok then .tup [v,.bool true] else v
   | none=>(QQ P et).map fun z=>if ok then .tup [z,.bool false] else z
 else none
def setM (P:Program) (t:TypeId) (ks vs:List V) (clk:Nat) (k v:V):Option Blk:=
 (mapT P t).bind fun (kt,_)=>if Vn P kt k=true then (Jd k ks 0).map fun
   | some i=>.map ks (vs.set i v) clk
   | none=>.map (ks++[k]) (vs++[v]) (clk+1)
 else none
def Ws (P:Program) (lk:Operand->Option V) (get:Id->Option Blk) (j:Id):Op->Option (V × Upd)
 | .lookup t x i ok=>(lk x).bind fun m=>(lk i).bind fun k=>match m with
   | .mapv ks vs=>(XS P t ks vs k ok).map (·,.none)
   | .mnil=>(XS P t [] [] k ok).map (·,.none)
   | .map id=>(get id).bind fun|.map ks vs _=>(XS P t ks vs k ok).map (·,.none)|_=>none
   | _=>none
 | .mapUpdate t x i y|.insert t x i y=>(lk x).bind fun m=>(lk i).bind fun k=>(lk y).bind fun v=>match m with
   | .map id=>(get id).bind fun|.map ks vs clk=>(setM P t ks vs clk k v).map (.any,.put id ·)|_=>none
   | _=>none
 | .makeMap t r=>match r with
   | none=>if (mapT P t).isSome then some (.map j,.new (.map [] [] 0)) else none
   | some x=>(lk x).bind fun|.int _ _=>if (mapT P t).isSome then some (.map j,.new (.map [] [] 0)) else none|_=>none
 | .call c=>match c.callee,c.args.toList,c.argTypes.toList with
   | .builtin .len,[x],[t]=>if Qo P t = .map then (lk x).bind fun
      | .mapv ks _=>some (.int .i64 ks.length,.none)
      | .mnil=>some (.int .i64 0,.none)
      | .map id=>(get id).bind fun|.map ks _ _=>some (.int .i64 ks.length,.none)|_=>none
      | _=>none
     else none
   | _,_,_=>none
 | _=>none
section
variable {P:Program} {lk:Operand->Option V} {σ:Qa} {j:Id} {E:Amb}
theorem sortT_map {t:TypeId} (h:Qo P t = .map):∃ k e,P.underlying t=some (.map k e):=by
 unfold Qo at h;split at h<;>simp_all
theorem uT {kt:TypeId} {d:TypeDesc} {k x:V} {ck cx:Value} {b:Bool} (hk:Vn P kt k=true) (hd:P.underlying kt=some d) (h:JT k x=some b) (r1:Rep E k ck) (r2:Rep E x cx):
 Instr.sameNow d ck cx=some b:=by
 unfold JT at h;split at h
 ·cases r1;cases r2;cases h;simp only[Vn,beq_iff_eq] at hk;rw[XW hk] at hd;cases hd;rfl
 ·cases r1;cases r2;simp only[Vn,beq_iff_eq] at hk;rw[Yy hk] at hd;cases hd;split at h
  ·rename_i e;cases h;simp[Instr.sameNow,e]
  ·cases h
 ·cases h
theorem zh {kt:TypeId} {d:TypeDesc} {k:V} {ck:Value} (hk:Vn P kt k=true) (hd:P.underlying kt=some d) (rk:Rep E k ck):∀ (ks:List V) (es:List MapEntry) (i:Nat) (r:Option Nat),
 RepL E ks (es.map (·.key))->Jd k ks i=some r->Instr.findNow d ck es i=some (r.bind fun n=>(es[n - i]?).map fun e=>(n,e.val))/\∀ n,r=some n->i<=n/\∃ e,es[n - i]? = some e/\∃ x,ks[n - i]? = some x/\JT k x=some true
 | [],es,i,r,h,hf=>by
   cases es with
   | nil=>cases hf;exact⟨rfl,fun n e=>by cases e⟩
   | cons e es=>cases h
 | x::ks,[],i,r,h,hf=>by cases h
 | x::ks,e::es,i,r,h,hf=>by
   cases h with
   | cons h1 h2=>
   simp only[Jd] at hf;split at hf
   ·rename_i hq;cases hf;have:=uT hk hd hq rk h1;refine⟨by simp[Instr.findNow,this],fun n e'=>?_⟩;cases e';exact⟨Nat.le_refl _,e,by simp,x,by simp,hq⟩
   ·rename_i hq;have hn:=uT hk hd hq rk h1;obtain⟨a,b⟩:=zh hk hd rk ks es (i+1) r h2 hf;refine⟨?_,fun n e'=>?_⟩
    ·simp only[Instr.findNow,hn,a];cases r with
     | none=>rfl
     | some n=>
       obtain⟨hle,_⟩:=b n rfl;simp only[Option.bind_some];rw[show n - i=(n - (i+1))+1 by omega,List.getElem?_cons_succ]
    ·obtain⟨hle,e1,h1,x1,h2,h3⟩:=b n e';refine⟨by omega,e1,?_,x1,?_,h3⟩
     ·rw[show n - i=(n - (i+1))+1 by omega,List.getElem?_cons_succ];exact h1
     ·rw[show n - i=(n - (i+1))+1 by omega,List.getElem?_cons_succ];exact h2
   ·cases hf
theorem qE {kt:TypeId} {k:V} (h:Vn P kt k=true):P.underlying kt=some .string∨∃ i,P.underlying kt=some (.int i):=by
 unfold Vn at h;split at h
 ·exact .inl (XW (by simpa using h))
 ·exact .inr ⟨_,Yy (by simpa using h)⟩
 ·cases h
theorem run_checkKey {b:Bool} {kt:TypeId} {k:V} (h:Vn P kt k=true) (ck:Value) (w:World):(Instr.checkKey b 10000 kt ck).run P w = .ok () w:=by
 rw[show (10000:Nat)=9999+1 from rfl];unfold Instr.checkKey;rcases qE h with h|⟨i,h⟩<;>simp[run_underlying h]
theorem run_findKey {kt:TypeId} {k:V} {ck:Value} {ks:List V} {es:List MapEntry} {r:Option Nat} (h:Vn P kt k=true) (rk:Rep E k ck) (hk:RepL E ks (es.map (·.key))) (hf:Jd k ks 0=some r) (w:World):
 (Instr.findKey kt ck es).run P w = .ok (r.bind fun n=>(es[n]?).map fun e=>(n,e.val)) w:=by
 have:∃ d,P.underlying kt=some d:=by rcases qE h with h|⟨i,h⟩<;>exact⟨_,h⟩
 obtain⟨d,hd⟩:=this;have:=(zh h hd rk ks es 0 r hk hf).1;simp only[Nat.sub_zero] at this;simp[Instr.findKey,run_underlying hd,this]
theorem Up {t:TypeId} {ks vs:List V} {k v:V} {ok:Bool} {ck cm:Value} {es:Array MapEntry} (h:XS P t ks vs k ok=some v) (rk:Rep E k ck)
 (hk:RepL E ks (es.toList.map (·.key))) (hv:RepL E vs (es.toList.map (·.val))) (hm:(cm = .map none/\es = #[])∨∃ b clk,cm = .map (some b)/\E.w.heap[b]? = some (.map es clk)):
 ∃ cv,(Instr.lookup t cm ck ok).run P E.w = .ok cv E.w/\Rep E v cv:=by
 unfold XS at h;obtain⟨⟨kt,et⟩,ht,h⟩:=Option.bind_eq_some_iff.1 h;simp only at h;split at h
 ·rename_i hok;obtain⟨r,hr,h⟩:=Option.bind_eq_some_iff.1 h;have hu:=wW ht;have hf:=run_findKey hok rk hk hr E.w;have body:∀ cv,(do
   Instr.checkKey es.isEmpty 10000 kt ck
   let (v,ok') <- match <- Instr.findKey kt ck es.toList with
    | some (_,v)=>pure (v,true)
    | none=>pure (<- zeroValue et,false)
   pure (if ok then Value.tuple #[v,.bool ok'] else v):Sem Value).run P E.w = .ok cv E.w->(Instr.lookup t cm ck ok).run P E.w = .ok cv E.w:=fun cv hb=>by
   rcases hm with⟨rfl,rfl⟩|⟨b,clk,rfl,hg⟩
   ·simp only[Instr.lookup,Sem.run_bind,run_underlying hu,Result.andThen_ok,Sem.run_pure] at hb ⊢;exact hb
   ·simp only[Instr.lookup,Sem.run_bind,run_underlying hu,Result.andThen_ok,Sem.run_pure,run_getObj_map _ _ _ _ hg] at hb ⊢;exact hb
  cases r with
  | some i=>
    obtain⟨v0,hv0,rfl⟩:=Option.map_eq_some_iff.1 h;obtain⟨cv0,hc,hrep⟩:=hv.get hv0;rw[List.getElem?_map] at hc;obtain⟨e,he,rfl⟩:=Option.map_eq_some_iff.1 hc;have he':es[i]? = some e:=by simpa using he
    refine⟨if ok then .tuple #[e.val,.bool true] else e.val,body _ ?_,?_⟩
    ·simp[run_checkKey hok,hf,he']
    ·cases ok
     ·exact hrep
     ·exact .tup (.cons hrep (.cons (.bool _) .nil))
  | none=>
    obtain⟨z,hz,rfl⟩:=Option.map_eq_some_iff.1 h;obtain⟨cz,hrun,hrep,_⟩:=Jk hz E;refine⟨if ok then .tuple #[cz,.bool false] else cz,body _ ?_,?_⟩
    ·simp[run_checkKey hok,hf,hrun]
    ·cases ok
     ·exact hrep
     ·exact .tup (.cons hrep (.cons (.bool _) .nil))
 ·cases h
theorem ua {k x:V} {ck cx:Value} (h:JT k x=some true) (r1:Rep E k ck) (r2:Rep E x cx):ck=cx/\Instr.sameBits 10000 cx ck=true:=by
 unfold JT at h;split at h
 ·cases r1;cases r2;have h:=(MapKept.bytes_beq _ _).1 (Option.some.inj h);subst h;exact⟨rfl,by simp only[Instr.sameBits];exact (MapKept.bytes_beq _ _).2 rfl⟩
 ·cases r1;cases r2;split at h
  ·simp only[Option.some.injEq,beq_iff_eq] at h
   subst_vars
   exact⟨rfl,by simp[Instr.sameBits]⟩
  ·cases h
 ·cases h
def setB (w:World) (b:Nat) (o:Obj):World:={ w with heap:=w.heap.setIfInBounds b o }
theorem QRw {t:TypeId} {id:Id} {ks vs:List V} {clk:Nat} {k v:V} {blk:Blk} {ck cv cm:Value} (hs:Qk E σ) (hm:(id,.map ks vs clk)∈σ) (h:setM P t ks vs clk k v=some blk)
 (rm:Rep E (.map id) cm) (rk:Rep E k ck) (rv:Rep E v cv):
 ∃ w',(Instr.mapUpdate t cm ck cv).run P E.w = .ok () w'/\Qk { E with w:=w' } (σ.put id blk)/\Grow E σ { E with w:=w' } (σ.put id blk):=by
 unfold setM at h;obtain⟨⟨kt,et⟩,ht,h⟩:=Option.bind_eq_some_iff.1 h;simp only at h;split at h
 ·rename_i hok;obtain⟨r,hr,h⟩:=Option.map_eq_some_iff.1 h;have hu:=wW ht;cases rm with|@map _ b hι=>
  obtain⟨b',es,hι',hg,hk,hv,hI⟩:=hs.blk _ _ hm;rw[hι] at hι';cases hι';have hf:=run_findKey hok rk hk hr E.w;have hbl:(E.ι id).block=some b:=by rw[hι];rfl
  have size:∀ o:Obj,(setB E.w b o).heap.size=E.w.heap.size:=fun o=>by simp[setB]
  have oth:∀ (o:Obj) (i:Nat),i≠b->(setB E.w b o).heap[i]? = E.w.heap[i]?:=fun o i hi=>by
   simp only[setB,Array.getElem?_setIfInBounds];rw[if_neg (fun e=>hi e.symm)]
  have hlt:b<E.w.heap.size:=(Array.getElem?_eq_some_iff.1 hg).1;have own:∀ o:Obj,(setB E.w b o).heap[b]? = some o:=fun o=>by simp[setB,hlt]
  cases r with
  | none=>
    subst h;refine⟨setB E.w b (.map (es.push { key:=ck,val:=cv,born:=clk }) (clk+1)),?_,?_⟩
    ·simp[Instr.mapUpdate,run_underlying hu,run_getObj_map _ _ _ _ hg,run_checkKey hok,hf,setB,MapKept.run_setObj_map _ hg]
    ·refine UI hs hm hbl _ (size _) rfl rfl rfl (oth _) (fun o ho=>absurd ho (hI o)) fun hle=>?_;refine⟨b,_,hι,own _,?_,?_,hI⟩
     ·simpa using (hk.mono hle).append (.cons (rk.mono hle) .nil)
     ·simpa using (hv.mono hle).append (.cons (rv.mono hle) .nil)
  | some i=>
    subst h;have hkind:∃ d,P.underlying kt=some d:=by rcases qE hok with h|⟨i,h⟩<;>exact⟨_,h⟩
    obtain⟨d,hd⟩:=hkind;obtain⟨_,e,he,x,hx,hq⟩:=(zh hok hd rk ks es.toList 0 (some i) hk hr).2 i rfl;rw[Nat.sub_zero] at he hx;obtain⟨ce,hce,hre⟩:=hk.get hx;rw[List.getElem?_map,he] at hce;cases hce;obtain⟨hsame,hbits⟩:=ua hq rk hre;have he':es[i]? = some e:=by simpa using he
    refine⟨setB E.w b (.map (es.modify i fun e=>{ e with key:=ck,val:=cv }) clk),?_,?_⟩
    ·simp[Instr.mapUpdate,run_underlying hu,run_getObj_map _ _ _ _ hg,run_checkKey hok,hf,he',Instr.keyThatStays,hbits,setB,MapKept.run_setObj_map _ hg]
    ·refine UI hs hm hbl _ (size _) rfl rfl rfl (oth _) (fun o ho=>absurd ho (hI o)) fun hle=>?_;refine⟨b,_,hι,own _,?_,?_,hI⟩
     ·have:(es.modify i fun e=>{ e with key:=ck,val:=cv }).toList.map (·.key)=es.toList.map (·.key):=by
       apply List.ext_getElem?;intro n;simp only[List.getElem?_map,Array.getElem?_toList,Array.getElem?_modify];split
       ·rename_i e1;subst e1;rw[he'];simp[hsame]
       ·rfl
      rw[this];exact hk.mono hle
     ·have:(es.modify i fun e=>{ e with key:=ck,val:=cv }).toList.map (·.val)=(es.toList.map (·.val)).set i cv:=by
       apply List.ext_getElem?;intro n;have hil:i<es.size:=(Array.getElem?_eq_some_iff.1 he').1;simp only[List.getElem?_map,Array.getElem?_toList,Array.getElem?_modify,List.getElem?_set,List.length_map,Array.length_toList];split
       ·rename_i e1;subst e1;rw[he'];simp
       ·rfl
      rw[this];exact (hv.mono hle).set i (rv.mono hle)
 ·cases h
theorem OpOk.map {o:Oper} {v:V} {u:Upd} (h:Ws P lk σ.get j o.op=some (v,u)):OpOk P o lk σ j v (u.app σ j) u.Wf:=fun E ρ hs hj hρ=>by
 obtain⟨dst,op,type,pos,after,guard⟩:=o;simp only at h hρ;have still:∀ {cv:Value},(execOp ρ ⟨dst,op,type,pos,after,guard⟩).run P E.w = .ok (.value cv) E.w->∀ {v:V},Rep E v cv->
  ∃ E' cv,((execOp ρ ⟨dst,op,type,pos,after,guard⟩).run P E.w = .ok (.value cv) E'.w∨((execOp ρ ⟨dst,op,type,pos,after,guard⟩).run P E.w = .ok .skip E'.w/\cv=undef))/\Rep E' v cv/\Qk E' (Upd.app σ j .none)/\Grow E σ E' (Upd.app σ j .none)/\
   ∀ id,(Upd.Wf .none=true->id≠j)->E.ι id = .unborn->E'.ι id = .unborn:=by intro cv h1 v h2;exact⟨E,_,.inl h1,h2,hs,Grow.refl _ _,fun _ _ h=>h⟩
 unfold Ws at h;split at h
 ·rename_i t x i ok;obtain⟨m,hm,h⟩:=Option.bind_eq_some_iff.1 h;obtain⟨k,hk,h⟩:=Option.bind_eq_some_iff.1 h;have rm:=hρ x (by simp[Op.operands]) _ hm;have rk:=hρ i (by simp[Op.operands]) _ hk;have fin:=fun {cv:Value} {v0:V} (h1:(Instr.lookup t (ρ x) (ρ i) ok).run P E.w = .ok cv E.w) (h2:Rep E v0 cv)=>still (cv:=cv) (v:=v0) (by simp[execOp,h1]) h2;simp only at h;split at h
  ·obtain⟨v0,hv,e⟩:=Option.map_eq_some_iff.1 h;cases e;revert rm;generalize hx:ρ x=cx;intro rm;cases rm with
   | mapv h1 h2 hb hi=>
     obtain⟨cv,a,b⟩:=Up hv rk h1 h2 (.inr ⟨_,_,rfl,hb⟩);exact fin (by rw[hx];exact a) b
  ·obtain⟨v0,hv,e⟩:=Option.map_eq_some_iff.1 h;cases e;revert rm;generalize hx:ρ x=cx;intro rm;cases rm;obtain⟨cv,a,b⟩:=Up (es:=#[]) hv rk .nil .nil (.inl ⟨rfl,rfl⟩);exact fin (by rw[hx];exact a) b
  ·obtain⟨blk,hb,h⟩:=Option.bind_eq_some_iff.1 h;split at h
   ·obtain⟨v0,hv,e⟩:=Option.map_eq_some_iff.1 h;cases e;obtain⟨b,es,hι,hg,h1,h2,_⟩:=hs.blk _ _ (Qa.get_mem hb);revert rm;generalize hx:ρ x=cx;intro rm;cases rm with
    | map hι'=>
      rw[hι] at hι';cases hι';obtain⟨cv,a,b⟩:=Up hv rk h1 h2 (.inr ⟨_,_,rfl,hg⟩);exact fin (by rw[hx];exact a) b
   ·cases h
  ·cases h
 iterate 2
  ·rename_i t x i y;obtain⟨m,hm,h⟩:=Option.bind_eq_some_iff.1 h;obtain⟨k,hk,h⟩:=Option.bind_eq_some_iff.1 h;obtain⟨w0,hw,h⟩:=Option.bind_eq_some_iff.1 h;have rm:=hρ x (by simp[Op.operands]) _ hm;have rk:=hρ i (by simp[Op.operands]) _ hk;have rv:=hρ y (by simp[Op.operands]) _ hw;split at h
   ·obtain⟨blk,hb,h⟩:=Option.bind_eq_some_iff.1 h;split at h
    ·obtain⟨blk',hs',e⟩:=Option.map_eq_some_iff.1 h;cases e;obtain⟨w',hrun,hst,hg⟩:=QRw hs (Qa.get_mem hb) hs' rm rk rv;exact⟨{ E with w:=w' },undef,.inr ⟨by simp[execOp,hrun],rfl⟩,.any _,hst,hg,fun _ _ h=>h⟩
    ·cases h
   ·cases h
 ·rename_i t r;obtain⟨a,b,c,d⟩:=alloc_map hs hj;split at h
  ·split at h
   ·cases h;exact⟨_,_,.inl (by simp only[execOp,Option.map_none,Instr.makeMap];rfl),a,b,c,fun id hne=>d id (hne rfl)⟩
   ·cases h
  ·rename_i x;obtain⟨n,hn,h⟩:=Option.bind_eq_some_iff.1 h;split at h
   ·split at h
    ·rename_i ht;cases h;obtain⟨⟨k,e⟩,hke⟩:=Option.isSome_iff_exists.1 ht;have hu:=wW hke;have rn:=hρ x (by simp[Op.operands]) _ hn;refine⟨_,_,.inl ?_,a,b,c,fun id hne=>d id (hne rfl)⟩;revert rn;generalize hx:ρ x=cx;intro rn;cases rn;simp only[execOp,Option.map_some,hx,Instr.makeMap,Sem.run_bind,run_underlying hu,Result.andThen_ok];rfl
    ·cases h
   ·cases h
 ·rename_i c;split at h
  ·rename_i x t hcal hargs hats;have ha:c.args = #[x]:=by rw[<- Array.toArray_toList (xs:=c.args),hargs]
   have hat:c.argTypes = #[t]:=by rw[<- Array.toArray_toList (xs:=c.argTypes),hats]
   split at h
   ·rename_i hsort;obtain⟨kt,et,hd⟩:=sortT_map hsort;obtain⟨vx,hvx,h⟩:=Option.bind_eq_some_iff.1 h;have hrx:=hρ x (by simp[Op.operands,Call.operands,ha]) _ hvx;have fin:∀ {cv:Value} {m:Nat},ρ x=cv->(Builtin.len_ #[t] type #[cv]).run P E.w = .ok (.int .i64 m) E.w->∃ E' cv,((execOp ρ ⟨dst,.call c,type,pos,after,guard⟩).run P E.w = .ok (.value cv) E'.w∨((execOp ρ ⟨dst,.call c,type,pos,after,guard⟩).run P E.w = .ok .skip E'.w/\cv=undef))/\Rep E' (.int .i64 m) cv/\Qk E' (Upd.app σ j .none)/\Grow E σ E' (Upd.app σ j .none)/\
     ∀ id,(Upd.Wf .none=true->id≠j)->E.ι id = .unborn->E'.ι id = .unborn:=fun {cv m} e1 e2=>by
     refine⟨E,_,.inl ?_,.int _ m,hs,Grow.refl _ _,fun _ _ h=>h⟩;simp only[execOp,resolve,hcal,Sem.run_bind,Sem.run_pure,Result.andThen_ok,invoke,builtin,ha,hat,List.map_toArray,List.map_cons,List.map_nil,e1,e2]
    split at h
    ·cases h;revert hrx;generalize hx:ρ x=cx;intro hrx;cases hrx with
     | mapv h1 h2 hb hi=>
       have hl:=h1.length;refine fin hx ?_;simp only[Builtin.len_,List.getElem?_toArray,List.getElem?_cons_zero,Sem.run_bind,run_underlying hd,Result.andThen_ok,run_getObj_map _ _ _ _ hb,Sem.run_pure];simp only[List.length_map,Array.length_toList] at hl;rw[hl];rfl
    ·cases h;revert hrx;generalize hx:ρ x=cx;intro hrx;cases hrx;refine fin (m:=0) hx ?_;simp only[Builtin.len_,List.getElem?_toArray,List.getElem?_cons_zero,Sem.run_bind,run_underlying hd,Result.andThen_ok,Sem.run_pure];rfl
    ·obtain⟨blk,hb,h⟩:=Option.bind_eq_some_iff.1 h;split at h
     ·cases h;obtain⟨b,es,hι,hg,h1,h2,_⟩:=hs.blk _ _ (Qa.get_mem hb);revert hrx;generalize hx:ρ x=cx;intro hrx;cases hrx with
      | map hι'=>
        rw[hι] at hι';cases hι';have hl:=h1.length;refine fin hx ?_;simp only[Builtin.len_,List.getElem?_toArray,List.getElem?_cons_zero,Sem.run_bind,run_underlying hd,Result.andThen_ok,run_getObj_map _ _ _ _ hg,Sem.run_pure];simp only[List.length_map,Array.length_toList] at hl;rw[hl];rfl
     ·cases h
    ·cases h
   ·cases h
  ·cases h
 ·cases h
end
structure Ctx where
 P:Program
 G:List (Nat × V)
 ex:List Nat
 mixed:P.follows .mixedOrders=true
 own:List TypeId
def Xu (C:Ctx) (E:Amb):Prop:=∀ g v,C.G.lookup g=some v->Rep E (.rptr v) (.pointer (some ⟨g,0,none⟩))/\E.I g v.cells.length/\E.w.cell? ⟨g,v.cells.length,none⟩=none
theorem Xu.mono {C:Ctx} {E E':Amb} (h:Xu C E) (le:E.Le E'):Xu C E':=fun g v hv=>
 ⟨(h g v hv).1.mono le,le.imm _ _ (h g v hv).2.1,(le.cell _ _ (h g v hv).2.1).trans (h g v hv).2.2⟩
structure ASt where
 τ:List (Nat × V)
 σ:Qa
 n:Nat
 lv:Nat
 nx:Nat
def lkA (C:Ctx) (τ:List (Nat × V)):Operand->Option V
 | .tmp t=>τ.lookup t
 | .const v=>ofV v
 | .global g=>(C.G.lookup g).map .rptr
 | .func f=>some (.func (.func f) [] [])
structure Rel (C:Ctx) (s:ASt) (E:Amb) (a:Act):Prop where
 tmp:∀ t v,s.τ.lookup t=some v->Rep E v (a.tmps.getD t undef)
 size:a.tmps.size=s.n
 store:Qk E s.σ
 own:∀ k,s.nx<=k->E.ι (s.lv,k) = .unborn
 glob:Xu C E
theorem qV {C:Ctx} {s:ASt} {E:Amb} {a:Act} (h:Rel C s E a) {x:Operand} {v:V} (hv:lkA C s.τ x=some v):Rep E v (a.eval x):=by
 cases x with
 | tmp t=>exact h.tmp t v hv
 | const c=>exact (qR hv).1
 | global g=>
   obtain⟨u,hu,rfl⟩:=Option.map_eq_some_iff.1 hv;exact (h.glob g u hu).1
 | func f=>cases hv;exact .func .nil .nil
inductive QH where
 | normal
 | exit (id:Nat)
 | goto (l:Nat)
 | ret
 | panic (v:V)
inductive Jj (E:Amb):QH->Exit->Prop
 | normal:Jj E .normal .normal
 | exit (id:Nat):Jj E (.exit id) (.exit id)
 | goto (l:Nat):Jj E (.goto l) (.goto l)
 | ret:Jj E .ret .ret
 | panic {v:V} {cv:Value} (h:Rep E v cv):Jj E (.panic v) (.panic [{ v:=cv,recovered:=false }])
structure Post (C:Ctx) (K:QH->ASt->Prop) (s:ASt) (E:Amb) (a:Act) (e:Exit) (a':Act) (w':World) (E':Amb) (ae:QH) (s':ASt):Prop where
 w:E'.w=w'
 exit:Jj E' ae e
 k:K ae s'
 rel:Rel C s' E' a'
 grow:Grow E s.σ E' s'.σ
 defers:a'.defers=a.defers
 lv:s'.lv=s.lv
 born:∀ id:Id,id.1<s.lv->E.ι id = .unborn->E'.ι id = .unborn
def AW (C:Ctx) (c:Code) (K:QH->ASt->Prop) (s:ASt):Prop:=
 ∀ E a,Rel C s E a->c.wp C.P (fun e a' w'=>∃ E' ae s',Post C K s E a e a' w' E' ae s') a E.w
section
variable {C:Ctx} {K:QH->ASt->Prop} {s:ASt}
theorem aw_mono {c:Code} {K':QH->ASt->Prop} (h:AW C c K s) (hk:∀ e s,K e s->K' e s):AW C c K' s:=fun E a hr=>
 wp_mono (h E a hr) fun _ _ _ ⟨E',ae,s',p⟩=>⟨E',ae,s',{ p with k:=hk _ _ p.k }⟩
def Turn (C:Ctx) (s s':ASt):Prop:=
 ∀ E a,Rel C s E a->∃ E',E'.w=E.w/\Rel C s' E' a/\Grow E s.σ E' s'.σ/\s'.lv=s.lv/\∀ id:Id,id.1<s.lv->E.ι id = .unborn->E'.ι id = .unborn
theorem Turn.refl (C:Ctx) (s:ASt):Turn C s s:=fun E _ h=>⟨E,rfl,h,Grow.refl _ _,rfl,fun _ _ h=>h⟩
theorem Turn.trans {C:Ctx} {s t u:ASt} (h:Turn C s t) (k:Turn C t u):Turn C s u:=fun E a hr=>by
 obtain⟨E1,w1,r1,g1,l1,b1⟩:=h E a hr;obtain⟨E2,w2,r2,g2,l2,b2⟩:=k E1 a r1;exact⟨E2,w2.trans w1,r2,g1.trans g2,l2.trans l1,fun id hi hu=>b2 id (by omega) (b1 id hi hu)⟩
theorem Qew {c:Code} {s':ASt} (ht:Turn C s s') (h:AW C c K s'):AW C c K s:=fun E a hr=>by
 obtain⟨E1,w1,r1,g1,l1,b1⟩:=ht E a hr;have:=h E1 a r1;rw[w1] at this;exact wp_mono this fun _ _ _ ⟨E',ae,s'',p⟩=>⟨E',ae,s'',{ w:=p.w,exit:=p.exit,k:=p.k,rel:=p.rel,grow:=g1.trans p.grow,defers:=p.defers,lv:=p.lv.trans l1,born:=fun id hi hu=>p.born id (by omega) (b1 id hi hu) }⟩
theorem aw_post {c:Code} {K':QH->ASt->Prop} (h:AW C c K s) (hk:∀ e s,K e s->∃ s',Turn C s s'/\K' e s'):AW C c K' s:=fun E a hr=>
 wp_mono (h E a hr) fun e a' w' ⟨E',ae,s',p⟩=>by
  obtain⟨s2,ht,hk2⟩:=hk _ _ p.k;obtain⟨E2,w2,r2,g2,l2,b2⟩:=ht E' a' p.rel;refine⟨E2,ae,s2,w2.trans p.w,?_,hk2,r2,p.grow.trans g2,p.defers,l2.trans p.lv,fun id hi hu=>b2 id (by rw[p.lv];exact hi) (p.born id hi hu)⟩;have:=p.exit;cases this with
  | normal=>exact .normal
  | exit=>exact .exit _
  | goto=>exact .goto _
  | ret=>exact .ret
  | panic h=>exact .panic (h.mono g2.le)
theorem Post.here {e:QH} {e':Exit} {E:Amb} {a:Act} (hr:Rel C s E a) (he:Jj E e e') (h:K e s):Post C K s E a e' a E.w E e s:=
 ⟨rfl,he,h,hr,Grow.refl _ _,rfl,rfl,fun _ _ h=>h⟩
theorem aw_skip (h:K .normal s):AW C .skip K s:=fun E _ hr=>wp_skip ⟨E,.normal,s,Post.here hr .normal h⟩
theorem QHq {l:Nat} (h:K .normal s):AW C (.label l) K s:=fun E _ hr=>wp_label ⟨E,.normal,s,Post.here hr .normal h⟩
theorem aw_exit {id:Nat} (h:K (.exit id) s):AW C (.exit id) K s:=fun E _ hr=>wp_exit ⟨E,_,s,Post.here hr (.exit id) h⟩
theorem aw_goto {l:Nat} (h:K (.goto l) s):AW C (.goto l) K s:=fun E _ hr=>wp_goto ⟨E,_,s,Post.here hr (.goto l) h⟩
theorem aw_ret (h:K .ret s):AW C .ret K s:=fun E _ hr=>wp_ret ⟨E,_,s,Post.here hr .ret h⟩
def Then (N:ASt->Prop) (K:QH->ASt->Prop):QH->ASt->Prop
 | .normal,s=>N s
 | e,s=>K e s
theorem Post.trans {N:ASt->Prop} {E E1:Amb} {a a1:Act} {w1:World} {s1:ASt} {e:Exit} {a':Act} {w':World} {E':Amb} {ae:QH} {s':ASt}
 (p:Post C (Then N K) s E a .normal a1 w1 E1 .normal s1) (q:Post C K s1 E1 a1 e a' w' E' ae s'):Post C K s E a e a' w' E' ae s':=
 ⟨q.w,q.exit,q.k,q.rel,p.grow.trans q.grow,q.defers.trans p.defers,q.lv.trans p.lv,fun id hi hu=>q.born id (by rw[p.lv];exact hi) (p.born id hi hu)⟩
theorem aw_seq {x y:Code} (h:AW C x (Then (AW C y K) K) s):AW C (.seq x y) K s:=fun E a hr=>by
 refine wp_seq (wp_mono (h E a hr) ?_);rintro e a1 w1 ⟨E1,ae,s1,p⟩;have hx:=p.exit;cases hx with
 | normal=>
   have hk:AW C y K s1:=p.k;have:=hk E1 a1 p.rel;rw[p.w] at this;exact wp_mono this fun e a' w' ⟨E',ae,s',q⟩=>⟨E',ae,s',p.trans q⟩
 | exit id=>exact⟨E1,_,s1,{ p with k:=p.k }⟩
 | goto l=>exact⟨E1,_,s1,{ p with k:=p.k }⟩
 | ret=>exact⟨E1,_,s1,{ p with k:=p.k }⟩
 | panic h=>exact⟨E1,_,s1,{ p with k:=p.k }⟩
theorem Qez {c:Operand} {x y:Code} {b:Bool} (hc:lkA C s.τ c=some (.bool b)) (ht:b=true->AW C x K s) (hf:b=false->AW C y K s):AW C (.cond c x y) K s:=fun E a hr=>by
 have hb:a.eval c = .bool b:=by
  have:=qV hr hc;revert this;generalize a.eval c=v;intro h;cases h;rfl
 exact wp_cond_split hb (fun h=>ht h E a hr) (fun h=>hf h E a hr)
def Qhq (id:Nat) (K:QH->ASt->Prop):QH->ASt->Prop
 | .exit i,s=>if i=id then K .normal s else K (.exit i) s
 | e,s=>K e s
theorem aw_block {id:Nat} {c:Code} (h:AW C c (Qhq id K) s):AW C (.block id c) K s:=fun E a hr=>by
 refine wp_block (wp_mono (h E a hr) ?_);rintro e a1 w1 ⟨E1,ae,s1,p⟩;have hx:=p.exit;have hk:=p.k;cases hx with
 | normal=>exact⟨E1,_,s1,{ p with k:=hk }⟩
 | exit i=>
   simp only[Qhq] at hk;simp only[Exit.inBlock];split at hk
   ·rename_i e;rw[if_pos e];exact⟨E1,.normal,s1,{ p with k:=hk,exit:=.normal }⟩
   ·rename_i e;rw[if_neg e];exact⟨E1,_,s1,{ p with k:=hk }⟩
 | goto l=>exact⟨E1,_,s1,{ p with k:=hk }⟩
 | ret=>exact⟨E1,_,s1,{ p with k:=hk }⟩
 | panic h=>exact⟨E1,_,s1,{ p with k:=hk }⟩
theorem aw_loop {c:Code} {α:Type} (I:α->List (Nat × V)) (S:α->Qa) (μ:α->Nat) (x₀:α) (h₀:Turn C s { s with τ:=I x₀,σ:=S x₀ })
 (round:∀ x L,s.lv<L->(∀ id,id∈(S x).keys->id.1≠L)->
   AW C c (fun e s'=>match e with
    | .normal=>∃ x',μ x' < μ x/\Turn C { s' with lv:=s.lv,nx:=s.nx } { s with τ:=I x',σ:=S x' }
    | e=>K e { s' with lv:=s.lv,nx:=s.nx }) { s with τ:=I x,σ:=S x,lv:=L,nx:=0 }):
 AW C (.loop c) K s:=by
 refine Qew h₀ fun E a hr=>?_;have:=wp_loop_ghost (P:=C.P) (Q:=fun e a' w'=>∃ E' ae s',Post C K { s with τ:=I x₀,σ:=S x₀ } E a e a' w' E' ae s') (a:=a) (w:=E.w) (c:=c)
  (fun n a1 w1=>∃ x E1,μ x=n/\E1.w=w1/\Rel C { s with τ:=I x,σ:=S x } E1 a1/\Grow E (S x₀) E1 (S x)/\a1.defers=a.defers/\∀ id:Id,id.1<s.lv->E.ι id = .unborn->E1.ι id = .unborn)
  (μ x₀) ⟨x₀,E,rfl,rfl,hr,Grow.refl _ _,rfl,fun _ _ h=>h⟩ ?_
 ·exact this
 ·rintro n a1 w1 ⟨x,E1,rfl,rfl,r1,g1,d1,b1⟩;obtain⟨N,hN⟩:=r1.store.fin
  let L:=max N (s.lv+1)
  have hL:∀ id:Id,L<=id.1->E1.ι id = .unborn:=fun id hi=>hN id (by simp only[L] at hi;omega);have hlv:s.lv<L:=by simp only[L];omega
  have hkeys:∀ id,id∈(S x).keys->id.1≠L:=fun id hi e=>by
   obtain⟨k,_,hk⟩:=r1.store.mem hi;exact hk.born (hL id (by omega))
  have hrel:Rel C { s with τ:=I x,σ:=S x,lv:=L,nx:=0 } E1 a1:=⟨r1.tmp,r1.size,r1.store,fun k _=>hL (L,k) (Nat.le_refl _),r1.glob⟩
  refine wp_mono (round x L hlv hkeys E1 a1 hrel) ?_;rintro e a2 w2 ⟨E2,ae,s2,p⟩;have hx:=p.exit;have back:Rel C { s2 with lv:=s.lv,nx:=s.nx } E2 a2:=
   ⟨p.rel.tmp,p.rel.size,p.rel.store,fun k hk=>p.born (s.lv,k) hlv (r1.own k hk),p.rel.glob⟩
  have bornAll:∀ id:Id,id.1<s.lv->E.ι id = .unborn->E2.ι id = .unborn:=fun id hi hu=>p.born id (by show id.1<L;omega) (b1 id hi hu);have out:∀ ae',Jj E2 ae' e->K ae' { s2 with lv:=s.lv,nx:=s.nx }->∃ E' ae s',Post C K { s with τ:=I x₀,σ:=S x₀ } E a e a2 w2 E' ae s':=fun ae' he hk=>
   ⟨E2,ae',_,p.w,he,hk,back,g1.trans p.grow,p.defers.trans d1,rfl,bornAll⟩
  cases hx with
  | normal=>
    obtain⟨x',hlt,ht⟩:=p.k;obtain⟨E3,w3,r3,g3,l3,b3⟩:=ht E2 a2 back;exact⟨μ x',hlt,x',E3,rfl,w3.trans p.w,r3,(g1.trans p.grow).trans g3,p.defers.trans d1,fun id hi hu=>b3 id hi (bornAll id hi hu)⟩
  | exit i=>exact out _ (.exit i) p.k
  | goto l=>exact out _ (.goto l) p.k
  | ret=>exact out _ .ret p.k
  | panic h=>exact out _ (.panic h) p.k
inductive AOut where
 | ret (v:V)
 | pan (v:V)
inductive vO (E:Amb):AOut->Ending->Prop
 | ret {v:V} {cv:Value} (h:Rep E v cv):vO E (.ret v) (.returned cv)
 | pan {v:V} {cv:Value} (h:Rep E v cv):vO E (.pan v) (.panicked [{ v:=cv,recovered:=false }])
def Enter (P:Program) (f:FuncId):Prop:=∃ fn,P.funcs[f]? = some fn/\fn.body.isNone=false/\(fn.name == "runtime.NumGoroutine")=false
def AFn (C:Ctx) (f:FuncId) (args:List V) (σ:Qa) (R:Nat->AOut->Qa->Prop):Prop:=
 Enter C.P f/\∀ (E:Amb) (cargs:List Value) (L:Nat),Qk E σ->Xu C E->RepL E args cargs->(∀ id:Id,L<=id.1->E.ι id = .unborn)->
  Calls C.P f cargs.toArray E.w fun e w'=>∃ E' o σ',E'.w=w'/\R L o σ'/\vO E' o e/\Qk E' σ'/\Grow E σ E' σ'/\∀ id:Id,id.1<L->E.ι id = .unborn->E'.ι id = .unborn
def Ql (C:Ctx) (f:FuncId) (args:List V) (v:V):Prop:=AFn C f args [] fun _ o σ'=>o = .ret v/\σ' = []
def Uc:Nat->List V->List (Nat × V)
 | _,[]=>[]
 | k,v::vs=>(k,v)::Uc (k+1) vs
def Qj (P:Program) (s:ASt):ResultVar->Option V
 | .tmp t=>s.τ.lookup t
 | .cell a t=>match s.τ.lookup a with
   | some (.ptr id off)=>match s.σ.get id with
     | some (.cells _ cs)=>Xh P t cs off
     | _=>none
   | _=>none
def Qf (P:Program) (s:ASt):List ResultVar->Option (List V)
 | []=>some []
 | r::rs=>(Qj P s r).bind fun v=>(Qf P s rs).bind fun vs=>some (v::vs)
def resV (P:Program) (fn:Func) (s:ASt):Option V:=(Qf P s fn.results.toList).map fun vs=>match vs with|[v]=>v|vs=>.tup vs
end
mutual
inductive Frz (σ:Qa):V->V->Prop
 | refl (v:V):Frz σ v v
 | snil:Frz σ .snil (.slice [])
 | vec {id:Id} {ver:Nat} {t:TypeId} {s:Nat} {es es':List V} {wr:Bool} (h:σ.get id=some (.vec t s es ver wr)) (k:FrzL σ es es'):Frz σ (.vec id ver) (.slice es')
 | vsub {id:Id} {ver z lo len:Nat} {t:TypeId} {s:Nat} {es es':List V} {wr:Bool} (h:σ.get id=some (.vec t s es ver wr)) (hz:z=s) (hl:lo+len<=es.length) (k:FrzL σ es es'):Frz σ (.vsub id ver z lo len) (.slice ((es'.drop lo).take len))
 | func {fn:Fn} {a a' b b':List V} (h:FrzL σ a a') (k:FrzL σ b b'):Frz σ (.func fn a b) (.func fn a' b')
 | agg {cs cs':List V} (h:FrzL σ cs cs'):Frz σ (.agg cs) (.agg cs')
 | tup {cs cs':List V} (h:FrzL σ cs cs'):Frz σ (.tup cs) (.tup cs')
 | iface {t:TypeId} {v v':V} (h:Frz σ v v'):Frz σ (.iface t v) (.iface t v')
 | cells {id:Id} {t:TypeId} {cs cs':List V} (h:σ.get id=some (.cells t cs)) (k:FrzL σ cs cs'):Frz σ (.ptr id 0) (.rptr (.agg cs'))
 | cell {id:Id} {t:TypeId} {c c':V} (h:σ.get id=some (.cells t [c])) (k:Frz σ c c'):Frz σ (.ptr id 0) (.rptr c')
 | map {id:Id} {clk:Nat} {ks vs ks' vs':List V} (h:σ.get id=some (.map ks vs clk)) (k:FrzL σ ks ks') (k2:FrzL σ vs vs'):Frz σ (.map id) (.mapv ks' vs')
inductive FrzL (σ:Qa):List V->List V->Prop
 | nil:FrzL σ [] []
 | cons {v v':V} {vs vs':List V} (h:Frz σ v v') (k:FrzL σ vs vs'):FrzL σ (v::vs) (v' :: vs')
end
def Amb.sealed (E:Amb) (σ:Qa):Amb:={ E with I:=fun b o=>E.I b o∨Je E σ b }
section
variable {E:Amb} {σ:Qa}
theorem ZI:E.Le (E.sealed σ):=⟨fun _ _ h=>.inl h,fun _ _ _=>rfl,fun _=>Loc.Le.refl _,fun _ _ _ _ h=>h⟩
structure vP (E E':Amb) (v v':V):Prop where
 rep:∀ cv,Rep E v cv->Rep E' v' cv
 cells:∀ cvs,RepL E v.cells cvs->RepL E' v'.cells cvs
 len:v'.cells.length=v.cells.length
 ok:v.ok->v'.ok
 scal:v.scalar=true->v'.scalar=true
structure Qhw (E E':Amb) (vs vs':List V):Prop where
 rep:∀ cvs,RepL E vs cvs->RepL E' vs' cvs
 flat:∀ cvs,RepL E (vs.flatMap V.cells) cvs->RepL E' (vs'.flatMap V.cells) cvs
 len:vs'.length=vs.length
 elems:∀ s,(∀ e∈vs,e.cells.length=s/\e.ok)->∀ e∈vs',e.cells.length=s/\e.ok
 scal:(∀ e∈vs,e.scalar=true)->∀ e∈vs',e.scalar=true
theorem vP.VJ {E':Amb} {v v':V} (h:∀ cv,Rep E v cv->Rep E' v' cv) (h1:v.cells=[v]) (h2:v'.cells=[v']) (h3:v'.scalar=true):vP E E' v v':=by
 refine⟨h,fun cvs hr=>?_,by rw[h1,h2];rfl,fun _ c hc=>?_,fun _=>h3⟩
 ·rw[h1] at hr;rw[h2];cases hr with|cons a b=>cases b with|nil=>exact .cons (h _ a) .nil
 ·rw[h2] at hc;rw[List.mem_singleton.1 hc];exact h3
theorem vP.refl (v:V):vP E (E.sealed σ) v v:=⟨fun _ h=>h.mono ZI,fun _ h=>h.mono ZI,rfl,fun h=>h,fun h=>h⟩
theorem frz_vec (hs:∀ id b,(id,b)∈σ->Wd E id b) {id:Id} {ver:Nat} {t:TypeId} {s:Nat} {es es':List V} {wr:Bool} (h:σ.get id=some (.vec t s es ver wr)) (ih:Qhw E (E.sealed σ) es es') {cv:Value} (hr:Rep E (.vec id ver) cv):Rep (E.sealed σ) (.slice es') cv:=by
 have hm:=Qa.get_mem h;obtain⟨hv,xs,eι,rfl,hown,hxs,hes,h0,hI⟩:=UJ hr (hs _ _ hm);have hel:=ih.elems s hes;have hfl:=ih.flat _ hxs;rcases hown.2 with⟨a,rfl,e3⟩|⟨g,cap,cur,hc0,rfl,hg,hcap,_,hsz,htk⟩
 ·have:es' = []:=List.eq_nil_of_length_eq_zero (by rw[ih.len];exact e3);subst this;exact .slice0 _ _
 ·rw[<- ih.len];refine .slice (cvs:=xs) hfl (fun j u hj=>⟨?_,.inr ⟨id,List.mem_map.2 ⟨_,hm,rfl⟩,by rw[eι];simp[Loc.block,hblk];omega⟩⟩) hel (by rw[ih.len];exact hcap);show E.w.cell? _=_;unfold World.cell?;simp only[hg,Option.isSome_none,Bool.false_eq_true,if_false,Nat.zero_add];rw[<- htk,List.getElem?_take] at hj;split at hj
  ·simpa using hj
  ·cases hj
theorem Wew (hs:∀ id b,(id,b)∈σ->Wd E id b) {v v':V} (h:Frz σ v v'):vP E (E.sealed σ) v v':=by
 induction h using Frz.rec (motive_2:=fun vs vs' _=>Qhw E (E.sealed σ) vs vs') with
 | refl v=>exact .refl v
 | snil=>exact .VJ (fun cv h=>by cases h;exact .slice0 _ _) rfl rfl rfl
 | vec h k ih=>exact .VJ (fun cv hr=>frz_vec hs h ih hr) rfl rfl rfl
 | @vsub id ver z lo len t s es es' wr h hz hl k ih=>
   subst hz;refine .VJ (fun cv hr=>?_) rfl rfl rfl;obtain⟨hv,xs,eι,hown,hxs,hes,h0,hI⟩:=hs _ _ (Qa.get_mem h);cases hr with
   | vsub h1 h2 h3=>
     rw[eι] at h1;cases h1;obtain⟨b,n,c0,rfl,q1,q2,q3,q4⟩:=h3 rfl;have hwhole:=frz_vec hs h ih (.vec eι (Nat.le_refl _) fun _=>rfl);have hn:n=es'.length:=by obtain⟨_,_,e,_⟩:=hwhole.UL;injection e
     subst hn;refine uC hwhole q1 _ (by omega) _ ?_;by_cases hl0:len=0
     ·exact .inl hl0
     ·refine .inr fun s hs'=>?_;rw[q4 (by omega)];have hel:=ih.elems z hes;have:s=z:=by
       cases es' with
       | nil=>exact absurd (Nat.le_zero.1 (Nat.le_trans (Nat.le_add_left _ _) q1)) hl0
       | cons e0 es'=>rw[<- hs' e0 (by simp),(hel e0 (by simp)).1]
      rw[this]
 | func h k i1 i2=>exact .VJ (fun cv hr=>by cases hr with|func a b=>exact .func (i1.rep _ a) (i2.rep _ b)) rfl rfl rfl
 | agg h ih=>exact⟨fun cv hr=>by cases hr with|agg hr hsc=>exact .agg (ih.rep _ hr) (ih.scal hsc),ih.rep,ih.len,fun ho=>ih.scal ho,fun h=>by simp[V.scalar] at h⟩
 | tup h ih=>exact⟨fun cv hr=>by cases hr with|tup hr=>exact .tup (ih.rep _ hr),fun cvs hr=>by cases hr with|cons a b=>cases b;cases a with|tup hr=>exact .cons (.tup (ih.rep _ hr)) .nil,rfl,fun ho=>by have:=ho _ (by simp[V.cells];rfl);simp[V.scalar] at this,fun h=>by simp[V.scalar] at h⟩
 | iface h ih=>exact .VJ (fun cv hr=>by cases hr with|iface hr=>exact .iface (ih.rep _ hr)) rfl rfl rfl
 | @cells id t cs cs' h k ih=>
   refine .VJ (fun cv hr=>?_) rfl rfl rfl;have hm:=Qa.get_mem h;obtain⟨b,c,eι,hg,hcs,hsc,hI⟩:=hs _ _ hm;obtain⟨b',e',rfl⟩:=VH hr;rw[eι] at e';cases e';refine .rptr (v:=.agg cs') (cvs:=c.toList) (ih.rep _ hcs) (ih.scal hsc) fun j u hj=>⟨?_,.inr ⟨id,List.mem_map.2 ⟨_,hm,rfl⟩,by rw[eι];rfl⟩⟩
   show E.w.cell? _=_;unfold World.cell?;simp only[hg,Option.isSome_none,Bool.false_eq_true,if_false,Nat.zero_add];simpa using hj
 | @cell id t c c' h k ih=>
   refine .VJ (fun cv hr=>?_) rfl rfl rfl;have hm:=Qa.get_mem h;obtain⟨b,cc,eι,hg,hcs,hsc,hI⟩:=hs _ _ hm;obtain⟨b',e',rfl⟩:=VH hr;rw[eι] at e';cases e';have hc1:c.scalar=true:=hsc c (by simp);have hcc:c.cells=[c]:=by cases c<;>first|rfl|simp[V.scalar] at hc1
   have hc2:=ih.scal hc1;have hcc':c'.cells=[c']:=by cases c'<;>first|rfl|simp[V.scalar] at hc2
   refine .rptr (v:=c') (cvs:=cc.toList) (by have:=ih.cells cc.toList (by rw[hcc];exact hcs);exact this) (fun x hx=>by rw[hcc'] at hx;rw[List.mem_singleton.1 hx];exact hc2) fun j u hj=>⟨?_,.inr ⟨id,List.mem_map.2 ⟨_,hm,rfl⟩,by rw[eι];rfl⟩⟩
   show E.w.cell? _=_;unfold World.cell?;simp only[hg,Option.isSome_none,Bool.false_eq_true,if_false,Nat.zero_add];simpa using hj
 | @map id clk ks vs ks' vs' h k k2 i1 i2=>
   refine .VJ (fun cv hr=>?_) rfl rfl rfl;have hm:=Qa.get_mem h;obtain⟨b,es,eι,hg,h1,h2,hI⟩:=hs _ _ hm;cases hr with
   | map e'=>
     rw[eι] at e';cases e';exact .mapv (i1.rep _ h1) (i2.rep _ h2) hg (.inr ⟨id,List.mem_map.2 ⟨_,hm,rfl⟩,by rw[eι];rfl⟩)
 | nil=>exact⟨fun _ h=>h.mono ZI,fun _ h=>h.mono ZI,rfl,fun _ h=>h,fun h=>h⟩
 | cons h k i1 i2=>
   refine⟨fun cvs hr=>?_,fun cvs hr=>?_,by simp[i2.len],fun s hs e he=>?_,fun hs e he=>?_⟩
   ·cases hr with|cons a b=>exact .cons (i1.rep _ a) (i2.rep _ b)
   ·simp only[List.flatMap_cons] at hr ⊢;obtain⟨a,b,rfl,ha,hb⟩:=hr.split;exact (i1.cells _ ha).append (i2.flat _ hb)
   ·rcases List.mem_cons.1 he with rfl|he
    ·have:=hs _ List.mem_cons_self;exact⟨i1.len.trans this.1,i1.ok this.2⟩
    ·exact i2.elems s (fun e he=>hs e (List.mem_cons_of_mem _ he)) e he
   ·rcases List.mem_cons.1 he with rfl|he
    ·exact i1.scal (hs _ List.mem_cons_self)
    ·exact i2.scal (fun e he=>hs e (List.mem_cons_of_mem _ he)) e he
theorem wg {σd:Qa} (hs:Qk E σ) (hd:∀ x,x∈σd->x∈σ) {v v':V} (h:Frz σd v v') (cv:Value) (hr:Rep E v cv):Rep (E.sealed σd) v' cv:=
 (Wew (fun id b hm=>hs.blk id b (hd _ hm)) h).rep cv hr
theorem Jy {σk σd:Qa} (hs:Qk E σ) (hk:∀ x,x∈σk->x∈σ) (hd:∀ x,x∈σd->x∈σ) (hkn:σk.keys.Nodup) (hdis:∀ id,id∈σk.keys->id∉σd.keys):
 Qk (E.sealed σd) σk/\Grow E σ (E.sealed σd) σk:=by
 have key:∀ {t:Qa},(∀ x,x∈t->x∈σ)->∀ id,id∈t.keys->id∈σ.keys:=fun ht id hi=>by
  obtain⟨x,hx,rfl⟩:=List.mem_map.1 hi;exact List.mem_map.2 ⟨x,ht x hx,rfl⟩
 have up:∀ b,Je E σd b->Je E σ b:=fun b ⟨id,hi,hb⟩=>⟨id,key hd id hi,hb⟩
 refine⟨⟨fun id b hb=>?_,hkn,fun i j hi hj=>hs.apart i j (key hk i hi) (key hk j hj),fun b o hi=>?_,hs.fin⟩,?_⟩
 ·refine (hs.blk id b (hk _ hb)).keep ZI rfl (fun _ _=>rfl) fun c hc o hi=>?_;rcases hi with hi|⟨j,hj,hcj⟩
  ·exact hi
  ·have hid:id∈σk.keys:=List.mem_map.2 ⟨_,hb,rfl⟩;exact absurd hcj (hs.apart id j (key hk id hid) (key hd j hj) (fun e=>hdis id hid (e▸hj)) c hc)
 ·rcases hi with hi|hi
  ·exact hs.imm b o hi
  ·exact hs.ownedLt (up b hi)
 ·exact⟨ZI,fun _ _ _=>rfl,fun b o hi=>hi.elim .inl fun h=>.inr (.inr (up b h)),fun _ _ _=>rfl,fun id hi=>.inl (key hk id hi),fun b ⟨id,hi,hb⟩=>.inr ⟨id,key hk id hi,hb⟩,rfl,rfl,rfl,Nat.le_refl _⟩
end
section
variable {C:Ctx}
theorem wD {E:Amb} {vs:List V} {cvs:List Value} (h:RepL E vs cvs) (rest:List Value):∀ (k t:Nat) (pre:List Value) (v:V),pre.length=k->(Uc k vs).lookup t=some v->
 Rep E v ((pre++cvs++rest).getD t undef):=by
 induction vs generalizing cvs with
 | nil=>intro k t pre v _ h;simp[Uc] at h
 | cons x vs ih=>
   intro k t pre v hp hl;cases h with
   | @cons _ c _ cs hx hr=>
     simp only[Uc,List.lookup_cons] at hl;split at hl
     ·rename_i e;have e:=eq_of_beq e;cases hl;subst e;have:(pre++c::cs++rest)[t]? = some c:=by
       rw[List.append_assoc,List.getElem?_append_right (by omega),hp,Nat.sub_self];rfl
      rw[List.getD_eq_getElem?_getD,this];exact hx
     ·have:=ih hr (k+1) t (pre++[c]) v (by simp[hp]) hl;simpa using this
theorem QTw {s:ASt} {E:Amb} {a:Act} (hr:Rel C s E a) {r:ResultVar} {v:V} (h:Qj C.P s r=some v):
 ∃ cv,(match r with|.tmp t=>Pure.pure (a.tmps.getD t undef)|.cell x t=>do loadVar t (<- asAddr (a.tmps.getD x undef)):Sem Value).run C.P E.w = .ok cv E.w/\Rep E v cv:=by
 cases r with
 | tmp t=>exact⟨_,rfl,hr.tmp t v h⟩
 | cell x t=>
   simp only[Qj] at h;split at h
   ·rename_i id off hl;split at h
    ·rename_i t' cs hg;have hp:=hr.tmp _ _ hl;obtain⟨b,e,hrd⟩:=(hr.store.blk _ _ (Qa.get_mem hg)).reads hp;obtain⟨cv,h1,h2⟩:=Jz (P:=C.P) hrd h;refine⟨cv,?_,h2⟩;simp only[e,asAddr,Sem.run_bind,Sem.run_pure,Result.andThen_ok];simpa[Instr.loadAt,Instr.sureAddr] using h1
    ·cases h
   ·cases h
theorem QTz {s:ASt} {E:Amb} {a:Act} (hr:Rel C s E a) {rs:List ResultVar} {vs:List V} (h:Qf C.P s rs=some vs):
 ∃ cvs,(rs.mapM fun r=>match r with|.tmp t=>Pure.pure (a.tmps.getD t undef)|.cell x t=>do loadVar t (<- asAddr (a.tmps.getD x undef)):Sem (List Value)).run C.P E.w = .ok cvs E.w/\RepL E vs cvs:=by
 induction rs generalizing vs with
 | nil=>simp[Qf] at h;subst h;exact⟨[],rfl,.nil⟩
 | cons r rs ih=>
   simp only[Qf] at h;obtain⟨v,hv,h1⟩:=Option.bind_eq_some_iff.1 h;obtain⟨us,hu,h2⟩:=Option.bind_eq_some_iff.1 h1;cases h2;obtain⟨c,r1,r2⟩:=QTw hr hv;obtain⟨cs,r3,r4⟩:=ih hu;refine⟨c::cs,?_,.cons r2 r4⟩;rw[List.mapM_cons,Sem.run_bind,r1];simp only[Result.andThen_ok,Sem.run_bind,r3,Sem.run_pure]
theorem Qoz {s:ASt} {E:Amb} {a:Act} {fn:Func} (hr:Rel C s E a) {v:V} (h:resV C.P fn s=some v):∃ cv,(results fn a.tmps).run C.P E.w = .ok cv E.w/\Rep E v cv:=by
 unfold resV at h;obtain⟨vs,hvs,rfl⟩:=Option.map_eq_some_iff.1 h;obtain⟨cvs,h1,h2⟩:=QTz hr hvs;have hm:(fn.results.mapM fun r=>match r with|.tmp t=>Pure.pure (a.tmps.getD t undef)|.cell x t=>do loadVar t (<- asAddr (a.tmps.getD x undef)):Sem (Array Value)).run C.P E.w = .ok cvs.toArray E.w:=by
  rw[Array.mapM_eq_mapM_toList,map_eq_pure_bind,Sem.run_bind,h1];rfl
 refine⟨if h:cvs.toArray.size=1 then cvs.toArray[0] else .tuple cvs.toArray,?_,?_⟩
 ·unfold results;rw[Sem.run_bind];exact congrArg (fun r=>Result.andThen r fun a w'=>Sem.run C.P (Pure.pure (if h:a.size=1 then a[0] else Value.tuple a)) w') hm
 ·cases h2 with
  | nil=>exact .tup .nil
  | cons x t=>
    cases t with
    | nil=>simpa using x
    | cons y t=>simpa using Rep.tup (.cons x (.cons y t))
def Ends (C:Ctx) (fn:Func) (L:Nat) (R:Nat->AOut->Qa->Prop):QH->ASt->Prop
 | .normal,s|.ret,s=>∃ v v' σd σk,resV C.P fn s=some v/\(∀ x,x∈σk->x∈s.σ)/\(∀ x,x∈σd->x∈s.σ)/\(Qa.keys σk).Nodup/\(∀ id,id∈Qa.keys σk->id∉Qa.keys σd)/\Frz σd v v'/\R L (.ret v') σk
 | .panic v,s=>∃ v' σd σk,(∀ x,x∈σk->x∈s.σ)/\(∀ x,x∈σd->x∈s.σ)/\(Qa.keys σk).Nodup/\(∀ id,id∈Qa.keys σk->id∉Qa.keys σd)/\Frz σd v v'/\R L (.pan v') σk
 | _,_=>False
theorem afn_of {f:FuncId} {fn:Func} {c:Code} {args:List V} {σ:Qa} {R:Nat->AOut->Qa->Prop} (hf:C.P.funcs[f]? = some fn) (hb:fn.body=some c) (hname:(fn.name == "runtime.NumGoroutine")=false) (hn:args.length<=fn.ntmps)
 (h:∀ L,(∀ id,id∈σ.keys->id.1<L)->AW C c (Ends C fn L R) ⟨Uc 0 args,σ,fn.ntmps,L,0⟩):AFn C f args σ R:=⟨⟨fn,hf,by rw[hb];rfl,hname⟩,fun E cargs L hs hg ha hL=>by
 refine calls_of_wp hf hb ?_;have hlen:cargs.length=args.length:=ha.length;have hkeys:∀ id,id∈σ.keys->id.1<L:=fun id hi=>by
  obtain⟨k,_,hk⟩:=hs.mem hi;exact Nat.lt_of_not_le fun hle=>hk.born (hL id hle)
 have hrel:Rel C ⟨Uc 0 args,σ,fn.ntmps,L,0⟩ E { tmps:=cargs.toArray++Array.replicate (fn.ntmps - cargs.toArray.size) undef,defers:=[] }:=by
  refine⟨fun t v hv=>?_,by simp;omega,hs,fun k _=>hL (L,k) (Nat.le_refl _),hg⟩;have:=wD ha (List.replicate (fn.ntmps - cargs.length) undef) 0 t [] v rfl hv;have e:(cargs.toArray++Array.replicate (fn.ntmps - cargs.toArray.size) undef)=([]++cargs++List.replicate (fn.ntmps - cargs.length) undef).toArray:=by
   apply Array.ext';simp
  rw[e];simpa[Array.getD_eq_getD_getElem?,List.getD_eq_getElem?_getD] using this
 refine wp_mono (h L hkeys E _ hrel) ?_;rintro e a' w' ⟨E',ae,s',p⟩;have hd:=p.defers;have hk:=p.k;have hx:=p.exit;have fin:∀ {σd σk:Qa},(∀ x,x∈σk->x∈s'.σ)->(∀ x,x∈σd->x∈s'.σ)->σk.keys.Nodup->(∀ id,id∈σk.keys->id∉σd.keys)->
  Qk (E'.sealed σd) σk/\Grow E σ (E'.sealed σd) σk/\∀ id:Id,id.1<L->E.ι id = .unborn->(E'.sealed σd).ι id = .unborn:=fun h1 h2 h3 h4=>by
  obtain⟨q1,q2⟩:=Jy p.rel.store h1 h2 h3 h4;exact⟨q1,p.grow.trans q2,p.born⟩
 have ret:∀ v v' σd σk,resV C.P fn s' = some v->(∀ x,x∈σk->x∈s'.σ)->(∀ x,x∈σd->x∈s'.σ)->(Qa.keys σk).Nodup->(∀ id,id∈Qa.keys σk->id∉Qa.keys σd)->Frz σd v v'->R L (.ret v') σk->
  a'.defers=[]/\∃ v,(results fn a'.tmps).run C.P w' = .ok v w'/\∃ E' o σ',E'.w=w'/\R L o σ'/\vO E' o (.returned v)/\Qk E' σ'/\Grow E σ E' σ'/\∀ id:Id,id.1<L->E.ι id = .unborn->E'.ι id = .unborn:=by
  intro v v' σd σk h1 h2 h3 h4 h5 h6 h7;obtain⟨cv,r1,r2⟩:=Qoz p.rel h1;rw[p.w] at r1;obtain⟨f1,f2,f3⟩:=fin h2 h3 h4 h5;exact⟨hd,cv,r1,E'.sealed σd,_,σk,p.w,h7,.ret (wg p.rel.store h3 h6 cv r2),f1,f2,f3⟩
 cases hx with
 | normal=>
   obtain⟨v,v',σd,σk,h1,h2,h3,h4,h5,h6,h7⟩:=hk;exact ret v v' σd σk h1 h2 h3 h4 h5 h6 h7
 | ret=>
   obtain⟨v,v',σd,σk,h1,h2,h3,h4,h5,h6,h7⟩:=hk;exact ret v v' σd σk h1 h2 h3 h4 h5 h6 h7
 | exit=>exact hk.elim
 | goto=>exact hk.elim
 | panic hv=>
   obtain⟨v',σd,σk,h2,h3,h4,h5,h6,h7⟩:=hk;obtain⟨f1,f2,f3⟩:=fin h2 h3 h4 h5;exact⟨hd,E'.sealed σd,_,σk,p.w,h7,.pan (wg p.rel.store h3 h6 _ hv),f1,f2,f3⟩⟩
end
end Go.Awp
