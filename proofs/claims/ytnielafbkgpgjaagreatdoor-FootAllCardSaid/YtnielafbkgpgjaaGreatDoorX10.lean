/- AWP, text 20: the rule of statements that draw their order. -/
import Derived.Test.YtnielafbkgpgjaaGreatDoorX9
set_option linter.all false
set_option maxRecDepth 100000
set_option maxHeartbeats 8000000
namespace Go.Awp
open Go
def WY:Op->Bool
 | .load ..|.store ..|.alloc ..|.box ..|.indexAddr ..|.makeSlice ..|.slice ..|.call ..|.lookup ..|.mapUpdate ..|.insert ..|.makeMap ..=>false
 | _=>true
def QG:Op->Bool
 | .store ..|.alloc ..|.box ..|.makeSlice ..|.mapUpdate ..|.insert ..|.makeMap ..=>true
 | .call c=>match c.callee with
   | .builtin .append|.builtin .clear|.builtin .copy=>true
   | _=>false
 | _=>false
def Upd.wr (j:Id):Upd->List Id
 | .none=>[]
 | .new _=>[j]
 | .put id _=>[id]
def toMS (s:ASt):MS:=⟨fun t=>s.τ.lookup t,fun x=>x∈s.σ⟩
structure Neat (s:ASt):Prop where
 nodup:s.σ.keys.Nodup
 new:∀ k,s.nx<=k->(s.lv,k)∉s.σ.keys
section
variable {C:Ctx} {ops:Array Oper}
theorem Jt (s:ASt) (o:Oper) (d:D) (s':ASt) (hτ:s'.τ=s.τ) (hM:∀ x,x∈s'.σ↔(x∈d.wo∨(x∈s.σ/\x.1∉Qa.keys d.wi))):toMS (s'.putD o.dst d.v)=(toMS s).app o.dst d:=by
 unfold toMS MS.app;simp only[MS.mk.injEq];constructor
 ·funext t;cases hd:o.dst with
  | none=>simp[ASt.putD,hτ]
  | some u=>
    simp only[ASt.putD,List.lookup_cons,Option.some.injEq,hτ];by_cases e:t=u
    ·subst e;simp
    ·have e':¬ u=t:=fun h=>e h.symm;have:(t == u)=false:=by simp[e]
     simp[this,e']
 ·funext x;apply propext;have:(s'.putD o.dst d.v).σ=s'.σ:=(YO _ _ _).2.1;rw[this];exact hM x
theorem Qa.get_eq {σ:Qa} (hn:σ.keys.Nodup) {id:Id} {b:Blk} (h:(id,b)∈σ):σ.get id=some b:=by
 induction σ with
 | nil=>cases h
 | cons x r ih=>
   obtain⟨i,k⟩:=x;have hnd:=List.nodup_cons.1 hn;simp only[Qa.get];rcases List.mem_cons.1 h with e|h
   ·cases e;rw[if_pos rfl]
   ·rw[if_neg fun e=>hnd.1 (List.mem_map.2 ⟨_,h,e.symm⟩)];exact ih hnd.2 h
theorem Qa.get_none {σ:Qa} {id:Id} (h:id∉σ.keys):σ.get id=none:=by
 induction σ with
 | nil=>rfl
 | cons x r ih=>
   obtain⟨i,k⟩:=x;simp only[Qa.get];rw[if_neg fun e=>h (List.mem_cons.2 (.inl e.symm))];exact ih fun hm=>h (List.mem_cons.2 (.inr hm))
theorem Qa.zH {σ:Qa} (hn:σ.keys.Nodup) {id:Id} {k b:Blk} (hm:(id,k)∈σ) (x:Id × Blk):x∈σ.put id b↔(x=(id,b)∨(x∈σ/\x.1≠id)):=by
 constructor
 ·intro hx;rcases Qa.jg hx with e|⟨h1,h2⟩
  ·exact .inl e
  ·exact .inr ⟨h1,h2 hn⟩
 ·intro hx
  induction σ with
  | nil=>cases hm
  | cons y r ih=>
    obtain⟨i,q⟩:=y;have hnd:=List.nodup_cons.1 hn;simp only[Qa.put];split
    ·rename_i e;subst e;rcases hx with e|⟨h1,h2⟩
     ·exact List.mem_cons.2 (.inl e)
     ·rcases List.mem_cons.1 h1 with e|h1
      ·subst e;exact absurd rfl h2
      ·exact List.mem_cons_of_mem _ h1
    ·rename_i hne;have hm':(id,k)∈r:=by
      rcases List.mem_cons.1 hm with e|h
      ·cases e;exact absurd rfl hne
      ·exact h
     rcases hx with e|⟨h1,h2⟩
     ·exact List.mem_cons_of_mem _ (ih hnd.2 hm' (.inl e))
     ·rcases List.mem_cons.1 h1 with e|h1
      ·exact List.mem_cons.2 (.inl e)
      ·exact List.mem_cons_of_mem _ (ih hnd.2 hm' (.inr ⟨h1,h2⟩))
theorem Ym {σ:Qa} (hn:σ.keys.Nodup) (ids:List Id):(σ.only ids).keys.Nodup:=by
 unfold Qa.only Qa.keys;exact List.Sublist.nodup (List.Sublist.map _ List.filter_sublist) hn
theorem Ze {σ:Qa} {ids:List Id} {x:Id × Blk}:x∈σ.only ids↔x∈σ/\x.1∈ids:=by
 unfold Qa.only;rw[List.mem_filter];simp
theorem Qa.QAw {σ:Qa} (hn:σ.keys.Nodup) {ids:List Id} {id:Id} (h:id∈ids):(σ.only ids).get id=σ.get id:=by
 by_cases hk:id∈σ.keys
 ·obtain⟨⟨i,b⟩,hb,rfl⟩:=List.mem_map.1 hk;rw[Qa.get_eq hn hb,Qa.get_eq (Ym hn ids) (Ze.2 ⟨hb,h⟩)]
 ·rw[Qa.get_none hk,Qa.get_none fun hm=>hk (by obtain⟨x,hx,e⟩:=List.mem_map.1 hm;exact List.mem_map.2 ⟨x,(Ze.1 hx).1,e⟩)]
theorem LT.of_ok {o:Oper} {lk:Operand->Option V} {σi σo:Qa} {j:Id} {lv:Nat} {v:V} {nw:Bool} (h:∀ j',(nw=true->j' = j)->∃ σ1,OpOk C.P o lk σi j' v σ1 nw/\(∀ x,x∈σ1↔x∈σo)) (hn:(Qa.keys σo).Nodup):LT C o lk σi j lv v σo nw:=by
 intro E a K Q hs hg hj hρ _ hk;obtain⟨N,hN⟩:=hs.fin;obtain⟨σ1,hok,hmem⟩:=h (if nw=true then j else (N,0)) (fun e=>if_pos e);have hju:E.ι (if nw=true then j else (N,0)) = .unborn:=by
  split
  ·rename_i e;exact hj e
  ·exact hN (N,0) (Nat.le_refl _)
 obtain⟨E',cv,hrun,hv,hs',hg',hb⟩:=hok E a.eval hs hju hρ;have:=hk rfl E' cv hv (hs'.part (fun x hx=>(hmem x).2 hx) hn) (hg'.congr (fun _=>Iff.rfl) (XG fun x=>(hmem x).symm)) fun id _ hne hu=>hb id (fun e=>by rw[if_pos e];exact hne e) hu;unfold Oper.wp;rcases hrun with hrun|⟨hrun,rfl⟩<;>rw[hrun]<;>exact this
theorem Qkz {P:Program} {lk:Operand->Option V} {get:Id->Option Blk} {j id:Id} {op:Op} {v:V} {b:Blk} (h:QN P lk get j op=some (v,.put id b)):(∃ k,get id=some k)/\id∈touch lk op.operands.toList:=by
 unfold QN at h;split at h
 ·obtain⟨p,hp,h⟩:=Option.bind_eq_some_iff.1 h;split at h
  ·obtain⟨k,hk,h⟩:=Option.bind_eq_some_iff.1 h;split at h
   ·obtain⟨_,_,e⟩:=Option.map_eq_some_iff.1 h;cases e
   ·cases h
  ·obtain⟨k,hk,h⟩:=Option.bind_eq_some_iff.1 h;split at h
   ·split at h
    ·obtain⟨_,_,h⟩:=Option.bind_eq_some_iff.1 h;obtain⟨_,_,e⟩:=Option.map_eq_some_iff.1 h;cases e
    ·cases h
   ·cases h
  ·cases h
 ·rename_i t x y;obtain⟨p,hp,h⟩:=Option.bind_eq_some_iff.1 h;obtain⟨w,hw,h⟩:=Option.bind_eq_some_iff.1 h;have hx:x∈(Op.store t x y).operands.toList:=by simp[Op.operands]
  split at h
  ·obtain⟨k,hk,h⟩:=Option.bind_eq_some_iff.1 h;split at h
   ·split at h
    ·cases h;exact⟨⟨_,hk⟩,QI hx hp (by simp[Qq])⟩
    ·cases h
   ·cases h
  ·obtain⟨k,hk,h⟩:=Option.bind_eq_some_iff.1 h;split at h
   ·split at h
    ·obtain⟨_,_,h⟩:=Option.bind_eq_some_iff.1 h;split at h
     ·cases h;exact⟨⟨_,hk⟩,QI hx hp (by simp[Qq])⟩
     ·cases h
    ·cases h
   ·cases h
  ·cases h
 ·obtain⟨_,_,e⟩:=Option.map_eq_some_iff.1 h;cases e
 ·obtain⟨_,_,h⟩:=Option.bind_eq_some_iff.1 h;split at h<;>cases h
 ·cases h
theorem vecOp_put {P:Program} {lk:Operand->Option V} {get:Id->Option Blk} {j id:Id} {op:Op} {v:V} {b:Blk} (h:WO P lk get j op=some (v,.put id b)):(∃ k,get id=some k)/\id∈touch lk op.operands.toList:=by
 unfold WO at h;split at h
 ·rename_i c;split at h
  ·rename_i s x t tx hcal ha hat;have hs:s∈(Op.call c).operands.toList:=by
    have:s∈c.args.toList:=by rw[ha];simp
    simp[Op.operands,Call.operands];exact .inr (by simpa using this)
   obtain⟨vs,f1,h1⟩:=Option.bind_eq_some_iff.1 h;obtain⟨vx,f2,h2⟩:=Option.bind_eq_some_iff.1 h1;unfold appV at h2;obtain⟨_,_,h3⟩:=Option.bind_eq_some_iff.1 h2;obtain⟨_,_,h4⟩:=Option.bind_eq_some_iff.1 h3;obtain⟨_,_,h5⟩:=Option.bind_eq_some_iff.1 h4;obtain⟨_,_,h6⟩:=Option.bind_eq_some_iff.1 h5;obtain⟨_,_,h7⟩:=Option.bind_eq_some_iff.1 h6;split at h7
   ·split at h7
    ·obtain⟨k,hk,h8⟩:=Option.bind_eq_some_iff.1 h7;split at h8
     ·split at h8
      ·cases h8;exact⟨⟨_,hk⟩,QI hs f1 (by simp[Qq])⟩
      ·cases h8
     ·cases h8
    ·split at h7<;>cases h7
    ·cases h7
   ·cases h7
  ·obtain⟨_,_,h1⟩:=Option.bind_eq_some_iff.1 h;split at h1
   ·split at h1
    ·obtain⟨_,_,h2⟩:=Option.bind_eq_some_iff.1 h1;split at h2
     ·split at h2<;>cases h2
     ·cases h2
    ·cases h1
   ·cases h1
  ·cases h
 ·obtain⟨_,_,h1⟩:=Option.bind_eq_some_iff.1 h;obtain⟨_,_,h2⟩:=Option.bind_eq_some_iff.1 h1;split at h2
  ·obtain⟨_,_,h3⟩:=Option.bind_eq_some_iff.1 h2;obtain⟨_,_,h4⟩:=Option.bind_eq_some_iff.1 h3;obtain⟨_,_,h5⟩:=Option.bind_eq_some_iff.1 h4;split at h5
   ·split at h5<;>cases h5
   ·cases h5
  ·cases h2
 ·obtain⟨_,_,h1⟩:=Option.bind_eq_some_iff.1 h;obtain⟨_,_,h2⟩:=Option.bind_eq_some_iff.1 h1;split at h2
  ·obtain⟨_,_,h3⟩:=Option.bind_eq_some_iff.1 h2;obtain⟨_,_,h4⟩:=Option.bind_eq_some_iff.1 h3;obtain⟨_,_,h5⟩:=Option.bind_eq_some_iff.1 h4;obtain⟨_,_,h6⟩:=Option.bind_eq_some_iff.1 h5;split at h6<;>cases h6
  ·cases h2
 ·obtain⟨_,_,h1⟩:=Option.bind_eq_some_iff.1 h;obtain⟨_,_,e⟩:=Option.map_eq_some_iff.1 h1;cases e
 ·obtain⟨_,_,h1⟩:=Option.bind_eq_some_iff.1 h;obtain⟨_,_,e⟩:=Option.map_eq_some_iff.1 h1;cases e
 ·cases h
theorem uu {get:Id->Option Blk} {v:V} {id:Id} {b len:Nat} (h:winV get v=some (id,b,len)):id∈Qq v:=by
 unfold winV at h;split at h
 ·obtain⟨k,_,h⟩:=Option.bind_eq_some_iff.1 h;split at h
  ·split at h
   ·cases h;simp[Qq]
   ·cases h
  ·cases h
 ·obtain⟨k,_,h⟩:=Option.bind_eq_some_iff.1 h;split at h
  ·split at h
   ·cases h;simp[Qq]
   ·cases h
  ·cases h
 ·cases h
theorem uy {P:Program} {lk:Operand->Option V} {get:Id->Option Blk} {id:Id} {op:Op} {v:V} {u:Upd} (h:Xc P lk get op=some (v,u)):(∀ b,u = .put id b->(∃ k,get id=some k)/\id∈touch lk op.operands.toList)/\(QG op=false->u = .none):=by
 unfold Xc at h;split at h
 ·refine (fun (e:u = .none)=>⟨fun b e'=>(by rw[e] at e';cases e'),fun _=>e⟩) ?_;obtain⟨_,_,h⟩:=Option.bind_eq_some_iff.1 h;obtain⟨_,_,h⟩:=Option.bind_eq_some_iff.1 h;obtain⟨_,_,h⟩:=Option.bind_eq_some_iff.1 h;obtain⟨_,_,h⟩:=Option.bind_eq_some_iff.1 h;obtain⟨_,_,h⟩:=Option.bind_eq_some_iff.1 h;split at h
  ·obtain⟨_,_,h⟩:=Option.bind_eq_some_iff.1 h;obtain⟨_,_,h⟩:=Option.bind_eq_some_iff.1 h;split at h
   ·split at h
    ·split at h<;>cases h;rfl
    ·obtain⟨_,_,h⟩:=Option.bind_eq_some_iff.1 h;split at h<;>cases h;rfl
   ·cases h
  ·cases h
 ·refine (fun (e:u = .none)=>⟨fun b e'=>(by rw[e] at e';cases e'),fun _=>e⟩) ?_;obtain⟨_,_,h⟩:=Option.bind_eq_some_iff.1 h;obtain⟨_,_,h⟩:=Option.bind_eq_some_iff.1 h;split at h
  ·obtain⟨_,_,h⟩:=Option.bind_eq_some_iff.1 h;obtain⟨_,_,h⟩:=Option.bind_eq_some_iff.1 h;obtain⟨_,_,h⟩:=Option.bind_eq_some_iff.1 h;split at h<;>cases h;rfl
  ·cases h
 ·rename_i c;have hargs:∀ x∈c.args.toList,x∈(Op.call c).operands.toList:=fun x hx=>by simp[Op.operands,Call.operands];exact .inr (by simpa using hx)
  split at h
  ·refine (fun (e:u = .none)=>⟨fun b e'=>(by rw[e] at e';cases e'),fun _=>e⟩) ?_;obtain⟨_,_,h⟩:=Option.bind_eq_some_iff.1 h;split at h
   ·split at h
    ·obtain⟨_,_,e⟩:=Option.map_eq_some_iff.1 h;cases e;rfl
    ·cases h
   ·cases h
  ·rename_i x t hcal ha hat;refine⟨fun b e'=>?_,fun hw=>by rw[QG] at hw;rw[hcal] at hw;cases hw⟩;subst e';obtain⟨_,hl,h⟩:=Option.bind_eq_some_iff.1 h;obtain⟨_,hwv,h⟩:=Option.bind_eq_some_iff.1 h;obtain⟨_,_,h⟩:=Option.bind_eq_some_iff.1 h;obtain⟨_,_,h⟩:=Option.bind_eq_some_iff.1 h;obtain⟨_,_,h⟩:=Option.bind_eq_some_iff.1 h;obtain⟨_,hg,h⟩:=Option.bind_eq_some_iff.1 h;split at h
   ·split at h
    ·split at h<;>cases h;exact⟨⟨_,hg⟩,QI (hargs _ (by rw[ha];simp)) hl (uu hwv)⟩
    ·cases h
   ·cases h
  ·rename_i s x t tx hcal ha hat;refine⟨fun b e'=>?_,fun hw=>by rw[QG] at hw;rw[hcal] at hw;cases hw⟩;subst e';obtain⟨_,hl,h⟩:=Option.bind_eq_some_iff.1 h;split at h
   ·obtain⟨_,_,h⟩:=Option.bind_eq_some_iff.1 h;obtain⟨_,_,h⟩:=Option.bind_eq_some_iff.1 h;obtain⟨_,_,h⟩:=Option.bind_eq_some_iff.1 h;obtain⟨_,_,h⟩:=Option.bind_eq_some_iff.1 h;obtain⟨_,_,h⟩:=Option.bind_eq_some_iff.1 h;obtain⟨_,hg,h⟩:=Option.bind_eq_some_iff.1 h;split at h
    ·split at h
     ·split at h<;>cases h;exact⟨⟨_,hg⟩,QI (hargs _ (by rw[ha];simp)) hl (by simp[Qq])⟩
     ·cases h
    ·cases h
   ·cases h
  ·rename_i s x t tx hcal ha hat;refine⟨fun b e'=>?_,fun hw=>by rw[QG] at hw;rw[hcal] at hw;cases hw⟩;subst e';split at h
   ·obtain⟨_,hl,h⟩:=Option.bind_eq_some_iff.1 h;obtain⟨_,_,h⟩:=Option.bind_eq_some_iff.1 h;obtain⟨_,hwv,h⟩:=Option.bind_eq_some_iff.1 h;obtain⟨_,_,h⟩:=Option.bind_eq_some_iff.1 h;obtain⟨_,_,h⟩:=Option.bind_eq_some_iff.1 h;obtain⟨_,_,h⟩:=Option.bind_eq_some_iff.1 h;obtain⟨_,hg,h⟩:=Option.bind_eq_some_iff.1 h;split at h
    ·split at h
     ·split at h<;>cases h;exact⟨⟨_,hg⟩,QI (hargs _ (by rw[ha];simp)) hl (uu hwv)⟩
     ·cases h
    ·cases h
   ·cases h
  ·cases h
 ·cases h
theorem mapOp_put {P:Program} {lk:Operand->Option V} {get:Id->Option Blk} {j id:Id} {op:Op} {v:V} {b:Blk} (h:Ws P lk get j op=some (v,.put id b)):(∃ k,get id=some k)/\id∈touch lk op.operands.toList:=by
 have key:∀ {t:TypeId} {x i y:Operand},x∈op.operands.toList->((lk x).bind fun m=>(lk i).bind fun k=>(lk y).bind fun v=>match m with
  | .map id=>(get id).bind fun|.map ks vs clk=>(setM P t ks vs clk k v).map (V.any,Upd.put id ·)|_=>none
  | _=>none)=some (v,.put id b)->(∃ k,get id=some k)/\id∈touch lk op.operands.toList:=fun {t x i y} hx h=>by
  obtain⟨m,hm,h⟩:=Option.bind_eq_some_iff.1 h;obtain⟨k,_,h⟩:=Option.bind_eq_some_iff.1 h;obtain⟨w,_,h⟩:=Option.bind_eq_some_iff.1 h;split at h
  ·obtain⟨q,hq,h⟩:=Option.bind_eq_some_iff.1 h;split at h
   ·obtain⟨b',_,e⟩:=Option.map_eq_some_iff.1 h;cases e;exact⟨⟨_,hq⟩,QI hx hm (by simp[Qq])⟩
   ·cases h
  ·cases h
 have non:∀ {o:Option V},o.map (·,Upd.none)=some (v,.put id b)->False:=fun {o} h=>by cases o<;>simp at h
 cases op with
 | mapUpdate t x i y=>exact key (by simp[Op.operands]) h
 | insert t x i y=>exact key (by simp[Op.operands]) h
 | lookup t x i ok=>
   simp only[Ws] at h;obtain⟨m,_,h⟩:=Option.bind_eq_some_iff.1 h;obtain⟨k,_,h⟩:=Option.bind_eq_some_iff.1 h;split at h
   ·exact (non h).elim
   ·exact (non h).elim
   ·obtain⟨q,hq,h⟩:=Option.bind_eq_some_iff.1 h;split at h
    ·exact (non h).elim
    ·cases h
   ·cases h
 | makeMap t r=>
   cases r with
   | none=>simp only[Ws] at h;split at h<;>cases h
   | some x=>
     simp only[Ws] at h;obtain⟨n,_,h⟩:=Option.bind_eq_some_iff.1 h;split at h
     ·split at h<;>cases h
     ·cases h
 | call c=>
   simp only[Ws] at h;split at h
   ·split at h
    ·obtain⟨n,_,h⟩:=Option.bind_eq_some_iff.1 h;split at h
     ·cases h
     ·cases h
     ·obtain⟨q,hq,h⟩:=Option.bind_eq_some_iff.1 h;split at h<;>cases h
     ·cases h
    ·cases h
   ·cases h
 | _=>cases h
theorem yQ {P:Program} {lk:Operand->Option V} {get:Id->Option Blk} {j:Id} {op:Op} {v:V} {u:Upd} (hw:QG op=false) (h:Ws P lk get j op=some (v,u)):u = .none:=by
 have non:∀ {o:Option V},o.map (·,Upd.none)=some (v,u)->u = .none:=fun {o} h=>by
  cases o
  ·simp at h
  ·simp at h;exact h.2.symm
 cases op with
 | mapUpdate t x i y=>cases hw
 | insert t x i y=>cases hw
 | makeMap t r=>cases hw
 | lookup t x i ok=>
   simp only[Ws] at h;obtain⟨m,_,h⟩:=Option.bind_eq_some_iff.1 h;obtain⟨k,_,h⟩:=Option.bind_eq_some_iff.1 h;split at h
   ·exact non h
   ·exact non h
   ·obtain⟨q,hq,h⟩:=Option.bind_eq_some_iff.1 h;split at h
    ·exact non h
    ·cases h
   ·cases h
 | call c=>
   simp only[Ws] at h;split at h
   ·split at h
    ·obtain⟨n,_,h⟩:=Option.bind_eq_some_iff.1 h;split at h
     ·cases h;rfl
     ·cases h;rfl
     ·obtain⟨q,hq,h⟩:=Option.bind_eq_some_iff.1 h;split at h
      ·cases h;rfl
      ·cases h
     ·cases h
    ·cases h
   ·cases h
 | _=>cases h
theorem opA_put {P:Program} {lk:Operand->Option V} {get:Id->Option Blk} {j id:Id} {op:Op} {v:V} {b:Blk} (h:opA P lk get j op=some (v,.put id b)):(∃ k,get id=some k)/\id∈touch lk op.operands.toList:=by
 unfold opA at h;split at h
 ·cases h
 ·split at h
  ·rename_i r hr;cases h;exact Qkz hr
  ·split at h
   ·rename_i r hr;cases h;exact (uy hr).1 _ rfl
   ·split at h
    ·rename_i r hr;cases h;exact mapOp_put hr
    ·exact vecOp_put h
theorem plainD {o:Oper} {s:ASt} {v:V} {u:Upd} (hn:Neat s) (h:opA C.P (lkA C s.τ) s.σ.get (s.lv,s.nx) o.op=some (v,u)):
 ∃ ro wi wo,LT C o (lkA C s.τ) (ro++wi) (s.lv,s.nx) s.lv v (ro++wo) u.Wf/\(∀ x,x∈ro++wi->x∈s.σ)/\(Qa.keys (ro++wi)).Nodup/\
  (∀ x,x∈u.app s.σ (s.lv,s.nx)↔(x∈wo∨(x∈s.σ/\x.1∉Qa.keys wi)))/\(∀ id,id∈Qa.keys ro->id∈touch (lkA C s.τ) o.op.operands.toList)/\
  (∀ id,(id∈Qa.keys wi∨id∈Qa.keys wo)->id∈u.wr (s.lv,s.nx)):=by
 let ids:=touch (lkA C s.τ) o.op.operands.toList
 have kapp:∀ {σ σ':Qa},Qa.keys (σ++σ')=Qa.keys σ++Qa.keys σ':=fun {σ σ'}=>List.map_append;have okeys:∀ id,id∈(Qa.only s.σ ids).keys->id∈ids:=fun id hi=>by obtain⟨x,hx,rfl⟩:=List.mem_map.1 hi;exact (Ze.1 hx).2
 have loc:∀ {σi:Qa},(∀ id∈ids,σi.get id=s.σ.get id)->∀ j',(u.Wf=true->j' = (s.lv,s.nx))->opA C.P (lkA C s.τ) σi.get j' o.op=some (v,u):=fun {σi} hg j' hj'=>by
  have e:=opA_local (P:=C.P) (lk:=lkA C s.τ) (get:=s.σ.get) (get':=σi.get) (j:=(s.lv,s.nx)) (op:=o.op) hg;rw[h] at e;cases hu:u.Wf with
  | true=>rw[hj' hu];exact e
  | false=>exact opA_j e hu
 cases u with
 | none=>
   refine⟨s.σ.only ids,[],[],?_,fun x hx=>(Ze.1 (by simpa using hx)).1,by simpa using Ym hn.nodup ids,fun x=>by simp[Upd.app,Qa.keys],okeys,fun id hi=>by simp[Qa.keys] at hi⟩;refine LT.of_ok (fun j' hj'=>⟨_,jK (σ:=Qa.only s.σ ids++[]) (loc (fun id hid=>by rw[List.append_nil];exact Qa.QAw hn.nodup hid) j' hj'),fun x=>by simp[Upd.app]⟩) (by simpa using Ym hn.nodup ids)
 | new b=>
   have hj:(s.lv,s.nx)∉s.σ.keys:=hn.new s.nx (Nat.le_refl _);have hjo:(s.lv,s.nx)∉(s.σ.only ids).keys:=fun hm=>hj (by obtain⟨x,hx,e⟩:=List.mem_map.1 hm;exact List.mem_map.2 ⟨x,(Ze.1 hx).1,e⟩);refine⟨s.σ.only ids,[],[((s.lv,s.nx),b)],?_,fun x hx=>(Ze.1 (by simpa using hx)).1,by simpa using Ym hn.nodup ids,fun x=>by simp[Upd.app,Qa.keys],okeys,fun id hi=>by simpa[Qa.keys,Upd.wr] using hi⟩;refine LT.of_ok (fun j' hj'=>⟨_,jK (σ:=Qa.only s.σ ids++[]) (loc (fun id hid=>by rw[List.append_nil];exact Qa.QAw hn.nodup hid) j' hj'),fun x=>by rw[hj' rfl];simp[Upd.app,or_comm]⟩) ?_;rw[kapp];exact List.nodup_append.2 ⟨Ym hn.nodup ids,by simp[Qa.keys],fun a ha b' hb e=>by simp[Qa.keys] at hb;subst hb;exact hjo (e▸ha)⟩
 | put id b=>
   obtain⟨⟨k,hk⟩,hid⟩:=opA_put h;have hm:=Qa.get_mem hk
   let ro:=(s.σ.only ids).less [(id,k)]
   have hro:∀ x,x∈ro↔(x∈s.σ/\x.1∈ids/\x.1≠id):=fun x=>by
    rw[Qa.WV,Ze];simp[Qa.keys,and_assoc]
   have hnd:(Qa.keys (ro++[(id,k)])).Nodup:=by
    rw[kapp];refine List.nodup_append.2 ⟨Qa.Yp (Ym hn.nodup ids),by simp[Qa.keys],fun a ha b' hb e=>?_⟩;simp[Qa.keys] at hb;subst hb;subst e;obtain⟨x,hx,e⟩:=List.mem_map.1 ha;exact ((hro x).1 hx).2.2 e
   have hsub:∀ x,x∈ro++[(id,k)]->x∈s.σ:=fun x hx=>by
    rcases List.mem_append.1 hx with hx|hx
    ·exact ((hro x).1 hx).1
    ·rw[List.mem_singleton.1 hx];exact hm
   have hget:∀ i∈ids,Qa.get (ro++[(id,k)]) i=s.σ.get i:=fun i hi=>by
    by_cases hik:i∈s.σ.keys
    ·obtain⟨⟨i',q⟩,hq,rfl⟩:=List.mem_map.1 hik;rw[Qa.get_eq hn.nodup hq];refine Qa.get_eq hnd (List.mem_append.2 ?_);by_cases e:i' = id
     ·right;have:=Qxz hn.nodup hq hm e;rw[this];simp
     ·exact .inl ((hro _).2 ⟨hq,hi,e⟩)
    ·rw[Qa.get_none hik];refine Qa.get_none fun hmm=>hik ?_;obtain⟨x,hx,e⟩:=List.mem_map.1 hmm;exact List.mem_map.2 ⟨x,hsub x hx,e⟩
   refine⟨ro,[(id,k)],[(id,b)],?_,hsub,hnd,fun x=>?_,fun i hi=>?_,fun i hi=>by simpa[Qa.keys,Upd.wr] using hi⟩
   ·refine LT.of_ok (fun j' hj'=>⟨_,jK (σ:=ro++[(id,k)]) (loc hget j' hj'),fun x=>?_⟩) ?_
    ·show x∈Qa.put (ro++[(id,k)]) id b↔_;rw[Qa.zH hnd (k:=k) (by simp),List.mem_append,List.mem_append];constructor
     ·rintro (rfl|⟨hx|hx,hne⟩)
      ·exact .inr (by simp)
      ·exact .inl hx
      ·rw[List.mem_singleton.1 hx] at hne;exact absurd rfl hne
     ·rintro (hx|hx)
      ·exact .inr ⟨.inl hx,((hro x).1 hx).2.2⟩
      ·exact .inl (List.mem_singleton.1 hx)
    ·have:Qa.keys (ro++[(id,b)])=Qa.keys (ro++[(id,k)]):=by rw[kapp,kapp];rfl
     rw[this];exact hnd
   ·show x∈Qa.put s.σ id b↔_;rw[Qa.zH hn.nodup hm];simp[Qa.keys]
   ·obtain⟨x,hx,rfl⟩:=List.mem_map.1 hi;exact ((hro x).1 hx).2.1
theorem opA_idle {P:Program} {lk:Operand->Option V} {get get':Id->Option Blk} {j j':Id} {op:Op} (h:WY op=true):opA P lk get' j' op=opA P lk get j op:=by
 cases op<;>first|rfl|cases h
theorem qA {P:Program} {lk:Operand->Option V} {get:Id->Option Blk} {j:Id} {op:Op} {v:V} {u:Upd} (hw:QG op=false) (h:opA P lk get j op=some (v,u)):u = .none:=by
 unfold opA at h;split at h
 ·cases h;rfl
 ·split at h
  ·rename_i r hr;cases h;unfold QN at hr;split at hr
   ·obtain⟨p,_,h⟩:=Option.bind_eq_some_iff.1 hr;split at h
    ·obtain⟨k,_,h⟩:=Option.bind_eq_some_iff.1 h;split at h
     ·obtain⟨_,_,e⟩:=Option.map_eq_some_iff.1 h;cases e;rfl
     ·cases h
    ·obtain⟨k,_,h⟩:=Option.bind_eq_some_iff.1 h;split at h
     ·split at h
      ·obtain⟨_,_,h⟩:=Option.bind_eq_some_iff.1 h;obtain⟨_,_,e⟩:=Option.map_eq_some_iff.1 h;cases e;rfl
      ·cases h
     ·cases h
    ·cases h
   ·cases hw
   ·cases hw
   ·cases hw
   ·cases hr
  ·split at h
   ·rename_i r hr;cases h;exact (uy (id:=(0,0)) hr).2 hw
   split at h
   ·rename_i r hr;cases h;exact yQ hw hr
   unfold WO at h;split at h
   ·rename_i c _ _;split at h
    ·rename_i hcal ha hat;rw[QG] at hw;rw[hcal] at hw;cases hw
    ·obtain⟨_,_,h1⟩:=Option.bind_eq_some_iff.1 h;split at h1
     ·split at h1
      ·obtain⟨_,_,h2⟩:=Option.bind_eq_some_iff.1 h1;split at h2
       ·split at h2
        ·cases h2;rfl
        ·cases h2
       ·cases h2
      ·cases h1
     ·cases h1
    ·cases h
   ·obtain⟨_,_,h1⟩:=Option.bind_eq_some_iff.1 h;obtain⟨_,_,h2⟩:=Option.bind_eq_some_iff.1 h1;split at h2
    ·obtain⟨_,_,h3⟩:=Option.bind_eq_some_iff.1 h2;obtain⟨_,_,h4⟩:=Option.bind_eq_some_iff.1 h3;obtain⟨_,_,h5⟩:=Option.bind_eq_some_iff.1 h4;split at h5
     ·split at h5
      ·cases h5;rfl
      ·cases h5
     ·cases h5
    ·cases h2
   ·cases hw
   ·obtain⟨_,_,h1⟩:=Option.bind_eq_some_iff.1 h;obtain⟨_,_,e⟩:=Option.map_eq_some_iff.1 h1;cases e;rfl
   ·obtain⟨_,_,h1⟩:=Option.bind_eq_some_iff.1 h;obtain⟨_,_,e⟩:=Option.map_eq_some_iff.1 h1;cases e;rfl
   ·cases h
theorem plainD' {o:Oper} {s:ASt} {v:V} {u:Upd} (hn:Neat s) (h:opA C.P (lkA C s.τ) s.σ.get (s.lv,s.nx) o.op=some (v,u)):
 ∃ ro wi wo,LT C o (lkA C s.τ) (ro++wi) (s.lv,s.nx) s.lv v (ro++wo) u.Wf/\(∀ x,x∈ro++wi->x∈s.σ)/\(Qa.keys (ro++wi)).Nodup/\
  (∀ x,x∈u.app s.σ (s.lv,s.nx)↔(x∈wo∨(x∈s.σ/\x.1∉Qa.keys wi)))/\(∀ id,id∈Qa.keys ro->id∈touch (lkA C s.τ) o.op.operands.toList)/\
  (∀ id,(id∈Qa.keys wi∨id∈Qa.keys wo)->id∈u.wr (s.lv,s.nx))/\(WY o.op=true->ro=[]/\wi=[]/\wo=[])/\(QG o.op=false->wi=[]/\wo=[]):=by
 by_cases hi:WY o.op=true
 ·have hw:QG o.op=false:=by
   revert hi;cases o.op<;>simp[WY,QG]
  have hu:=qA hw h;subst hu;refine⟨[],[],[],LT.of_ok (fun j' _=>⟨[],jK (σ:=[]) (u:=.none) (by rw[<- h];exact opA_idle hi),fun x=>Iff.rfl⟩) (by simp[Qa.keys]),by simp,by simp[Qa.keys],fun x=>by simp[Upd.app,Qa.keys],by simp[Qa.keys],by simp[Qa.keys],fun _=>⟨rfl,rfl,rfl⟩,fun _=>⟨rfl,rfl⟩⟩
 ·obtain⟨ro,wi,wo,h1,h2,h3,h4,h5,h6⟩:=plainD hn h;refine⟨ro,wi,wo,h1,h2,h3,h4,h5,h6,fun h=>absurd h hi,fun hw=>?_⟩;have hu:=qA hw h;subst hu;simp only[Upd.wr] at h6;have nokey:∀ σ:Qa,(∀ id,id∈Qa.keys σ->False)->σ=[]:=fun σ hσ=>by
   cases σ with
   | nil=>rfl
   | cons x r=>exact (hσ x.1 (by simp[Qa.keys])).elim
  exact⟨nokey wi fun id hid=>(by simpa using h6 id (.inl hid)),nokey wo fun id hid=>(by simpa using h6 id (.inr hid))⟩
theorem LT.callQ {o:Oper} {s:ASt} {c:Call} {fo:Operand} (hc:o.op = .call c) (hf:c.callee = .value fo) {f:FuncId} {first cap args:List V} (hfv:lkA C s.τ fo=some (.func (.func f) first cap)) (hvs:allV (lkA C s.τ) c.args.toList=some args)
 {v:V} {pan:Option V} {σi σo:Qa} (hcall:vW C f (first++args++cap) { s with σ:=σi } (fun v' σ'=>pan=none/\v' = v/\σ' = σo) (fun p σ'=>pan=some p/\σ' = σo)):LT C o (lkA C s.τ) σi (s.lv,s.nx) s.lv v σo false pan:=by
 intro E a K Q hs hg _ hρ hp hk;have hff:=hρ fo (by rw[hc];simp[Op.operands,Call.operands,hf]) _ hfv;have hargs:=UG hvs fun x hx v hv=>hρ x (by rw[hc];simp[Op.operands,Call.operands];exact .inr (by simpa using hx)) v hv;obtain⟨fs,cs,hcf,hfirst,hcap⟩:∃ fs cs,a.eval fo = .func (.func f) (List.toArray fs) (List.toArray cs)/\RepL E first fs/\RepL E cap cs:=by
  revert hff;generalize a.eval fo=y;intro hy;cases hy with|func h1 h2=>exact⟨_,_,rfl,h1,h2⟩
 obtain⟨⟨fd,hfd,hbody,hname⟩,hcall⟩:=hcall;have hcalls:=hcall E _ hs hg ((hfirst.append hargs).append hcap);have hrun:(execOp a.eval o).run C.P E.w = .ok (.enter f (fs++c.args.toList.map a.eval++cs).toArray) E.w:=by
  have e2:fs.toArray++c.args.map a.eval++cs.toArray=(fs++c.args.toList.map a.eval++cs).toArray:=by rw[<- toArray_map];simp
  simp only[execOp,hc,resolve,hf,Sem.run_bind,Sem.run_pure,Result.andThen_ok,hcf,Deferred.ofValue,invoke,e2];generalize (fs++c.args.toList.map a.eval++cs).toArray=ar;have hn':¬ fd.name = "runtime.NumGoroutine":=fun e=>by rw[e] at hname;simp at hname
  have hb':¬ fd.body=none:=fun e=>by rw[e] at hbody;cases hbody
  simp[callFunc,hfd,hn',hb']
 unfold Oper.wp;rw[hrun];refine Calls.mono hcalls ?_;rintro e w' ⟨E1,rfl,hb1,hres⟩;rcases hres with⟨v',cv,σ',rfl,hv,⟨hpn,rfl,rfl⟩,hs1,hg1⟩|⟨v',cv,σ',rfl,hv,⟨hpn,rfl⟩,hs1,hg1⟩
 ·exact hk hpn E1 cv hv hs1 hg1 fun id hi _ hu=>hb1 id hi hu
 ·exact hp _ E1 cv hpn hv hs1 hg1 fun id hi _ hu=>hb1 id hi hu
theorem LT.call {o:Oper} {s:ASt} {c:Call} {fo:Operand} (hc:o.op = .call c) (hf:c.callee = .value fo) {f:FuncId} {first cap args:List V} (hfv:lkA C s.τ fo=some (.func (.func f) first cap)) (hvs:allV (lkA C s.τ) c.args.toList=some args)
 {args':List V} {v:V} {ids:List Id} (h:Ql C f args' v) (hz:FrzL (Qa.only s.σ ids) (first++args++cap) args') (hflat:args' = first++args++cap∨v.flat=true):LT C o (lkA C s.τ) (Qa.only s.σ ids) (s.lv,s.nx) s.lv v (Qa.only s.σ ids) false:=by
 refine LT.callQ (pan:=none) hc hf hfv hvs ?_;rcases hflat with e|e
 ·subst e;exact qJ (s:={ s with σ:=Qa.only s.σ ids }) h ⟨rfl,rfl,rfl⟩
 ·exact wG (s:={ s with σ:=Qa.only s.σ ids }) h hz e ⟨rfl,rfl,rfl⟩
theorem Uq (s:ASt):lkF C (toMS s).τ=lkA C s.τ:=by
 funext x;cases x<;>rfl
theorem zK (s:ASt) (o:Oper):JH ops (toMS s).τ o=VS ops s.τ o:=by
 unfold JH VS toMS;rfl
theorem put_keys' (σ:Qa) (id:Id) (b:Blk):(σ.put id b).keys=σ.keys:=by
 induction σ with
 | nil=>rfl
 | cons x r ih=>
   obtain⟨i,k⟩:=x;simp only[Qa.put];split
   ·rename_i e;subst e;rfl
   ·unfold Qa.keys at ih ⊢;simp only[List.map_cons,ih]
theorem Neat.put {s:ASt} (h:Neat s) (d:Option Tmp) (v:V):Neat (s.putD d v):=by
 obtain⟨h1,h2,_,h4⟩:=YO s d v;exact⟨by rw[h2];exact h.nodup,fun k hk=>by rw[h1,h2];rw[h4] at hk;exact h.new k hk⟩
theorem Neat.upd {s:ASt} (h:Neat s) (u:Upd):Neat (({ s with σ:=u.app s.σ (s.lv,s.nx) }:ASt).next u.Wf):=by
 cases u with
 | none=>exact⟨h.nodup,h.new⟩
 | new b=>
   have e:Qa.keys ((({ s with σ:=(Upd.new b).app s.σ (s.lv,s.nx) }:ASt).next (Upd.new b).Wf).σ)=(s.lv,s.nx)::s.σ.keys:=rfl;refine⟨?_,fun k hk=>?_⟩
   ·rw[e];exact List.nodup_cons.2 ⟨h.new _ (Nat.le_refl _),h.nodup⟩
   ·rw[e];have hk':s.nx+1<=k:=hk;show (s.lv,k)∉_;rw[List.mem_cons];rintro (e|e)
    ·cases e;omega
    ·exact h.new k (by omega) e
 | put id b=>
   have e:Qa.keys ((({ s with σ:=(Upd.put id b).app s.σ (s.lv,s.nx) }:ASt).next (Upd.put id b).Wf).σ)=s.σ.keys:=put_keys' _ _ _;exact⟨by rw[e];exact h.nodup,fun k hk=>by rw[e];exact h.new k hk⟩
theorem EnL.congr {N lv:Nat} {D1 D2:Nat->D}:∀ {l:List Nat} {m:MS},(∀ i∈l,D1 i=D2 i)->EnL C ops N lv D1 l m->EnL C ops N lv D2 l m
 | [],_,_,_=>trivial
 | i::l,m,h,⟨o,h1,h2,h3⟩=>by
   have e:=h i List.mem_cons_self;exact⟨o,h1,e▸h2,EnL.congr (fun i hi=>h i (List.mem_cons_of_mem _ hi)) (e▸h3)⟩
theorem qI {D1 D2:Nat->D}:∀ {l:List Nat} {m:MS},(∀ i∈l,D1 i=D2 i)->appL ops D1 l m=appL ops D2 l m
 | [],_,_=>rfl
 | i::l,m,h=>by
   simp only[appL];rw[h i List.mem_cons_self];exact qI fun i hi=>h i (List.mem_cons_of_mem _ hi)
structure vU (C:Ctx) (ops:Array Oper) (k len:Nat) (s sN:ASt) (D:Nat->D):Prop where
 en:EnL C ops s.n s.lv D (List.range' k len) (toMS s)
 app:appL ops D (List.range' k len) (toMS s)=toMS sN
 neat:Neat sN
 n:sN.n=s.n
 lv:sN.lv=s.lv
 nx:s.nx<=sN.nx
 j1:∀ i,(D i).j.1=s.lv
 j2:∀ i,k<=i->s.nx<=(D i).j.2
 j3:∀ i,k<=i->i<k+len->(D i).nw=true->(D i).j.2<sN.nx
 j4:∀ i i',k<=i->i<i'->(D i).nw=true->i<k+len->i' < k+len->(D i).j.2<(D i').j.2
 idle:∀ i o,k<=i->i<k+len->ops[i]? = some o->WY o.op=true->(D i).ro=[]/\(D i).wi=[]/\(D i).wo=[]
 reads:∀ i o,k<=i->i<k+len->ops[i]? = some o->QG o.op=false->(D i).wi=[]/\(D i).wo=[]
 pan:∀ i,k<=i->i<k+len->(D i).pan=none
theorem vU.nil {k:Nat} {s:ASt} (h:Neat s):vU C ops k 0 s s fun _=>⟨false,.tup [],[],[],[],(s.lv,s.nx),false,none⟩:=
 ⟨trivial,rfl,h,rfl,rfl,Nat.le_refl _,fun _=>rfl,fun _ _=>Nat.le_refl _,fun _ _ _ h=>(by cases h),fun _ _ _ _ h=>(by cases h),fun _ _ _ _ _ _=>⟨rfl,rfl,rfl⟩,fun _ _ _ _ _ _=>⟨rfl,rfl⟩,fun _ _ _=>rfl⟩
theorem vU.cons {k len:Nat} {s s1 sN:ASt} {o:Oper} {d:D} {D:Nat->D} (ho:ops[k]? = some o) (he:En C ops s.n s.lv o d (toMS s)) (hm:toMS s1=(toMS s).app o.dst d) (hn:s1.n=s.n) (hl:s1.lv=s.lv)
 (hx:s.nx<=s1.nx) (hj:d.j=(s.lv,s.nx)) (hnw:d.nw=true->s.nx<s1.nx) (hid:WY o.op=true->d.ro=[]/\d.wi=[]/\d.wo=[]) (hrd:QG o.op=false->d.wi=[]/\d.wo=[]) (hpn:d.pan=none) (h:vU C ops (k+1) len s1 sN D):
 vU C ops k (len+1) s sN fun i=>if i=k then d else D i:=by
 have ne:∀ i∈List.range' (k+1) len,D i=if i=k then d else D i:=fun i hi=>by
  have:=(List.mem_range'_1.1 hi).1;rw[if_neg (by omega)]
 have hjk:d.j.1=s.lv/\d.j.2=s.nx:=by rw[hj];exact⟨rfl,rfl⟩
 refine⟨?_,?_,h.neat,h.n.trans hn,h.lv.trans hl,Nat.le_trans hx h.nx,fun i=>?_,fun i hi=>?_,fun i hi hi' hnw'=>?_,fun i i' hi hii hnw' h1 h2=>?_,fun i o' hi hi' ho' hb=>?_,fun i o' hi hi' ho' hb=>?_,fun i hi hi'=>?_⟩
 ·rw[List.range'_succ];refine⟨o,ho,by simpa using he,?_⟩;simp only[if_true];rw[<- hm];have:=h.en;rw[hn,hl] at this;exact this.congr ne
 ·rw[List.range'_succ];simp only[appL,ho,Option.bind_some,if_pos];rw[<- hm,<- qI (D1:=D) ne];exact h.app
 ·split
  ·exact hjk.1
  ·exact (h.j1 i).trans hl
 ·split
  ·rw[hjk.2];exact Nat.le_refl _
  ·exact Nat.le_trans hx (h.j2 i (by omega))
 ·split at hnw'
  ·rename_i e;rw[if_pos e,hjk.2];exact Nat.lt_of_lt_of_le (hnw hnw') h.nx
  ·rename_i e;rw[if_neg e];exact h.j3 i (by omega) (by omega) hnw'
 ·rw[if_neg (show i'≠k by omega)];split at hnw'
  ·rename_i e;rw[if_pos e,hjk.2];exact Nat.lt_of_lt_of_le (hnw hnw') (h.j2 i' (by omega))
  ·rename_i e;rw[if_neg e];exact h.j4 i i' (by omega) hii hnw' (by omega) (by omega)
 ·split
  ·rename_i e;subst e;rw[ho] at ho';cases ho';exact hid hb
  ·exact h.idle i o' (by omega) (by omega) ho' hb
 ·split
  ·rename_i e;subst e;rw[ho] at ho';cases ho';exact hrd hb
  ·exact h.reads i o' (by omega) (by omega) ho' hb
 ·split
  ·exact hpn
  ·exact h.pan i (by omega) (by omega)
theorem VD {K:ASt->Prop} {X:V->ASt->Prop}:∀ (l:List Oper) (k:Nat) (s:ASt),(∀ j,l[j]? = ops[k+j]?)->Neat s->runS C true ops l s K X->∃ sN D,vU C ops k l.length s sN D/\K sN
 | [],k,s,_,hn,h=>⟨s,_,.nil hn,h⟩
 | o::l,k,s,hops,hn,h=>by
   have ho:ops[k]? = some o:=by have:=hops 0;simpa using this.symm
   have hops':∀ j,l[j]? = ops[k+1+j]?:=fun j=>by have:=hops (j+1);simpa[Nat.add_assoc,Nat.add_comm 1 j] using this
   unfold runS ZX at h;split at h
   case h_2=>exact h.elim
   rename_i gb hga;obtain⟨hyes,hno⟩:=h;have hgf:JH ops (toMS s).τ o=some gb:=(zK s o).trans hga;cases gb
   ·obtain⟨hd,h⟩:=hno rfl;have hp:=YO s o.dst (.tup []);obtain⟨sN,D,hc,hk⟩:=VD l (k+1) _ hops' (hn.put o.dst (.tup [])) h
    let d:Awp.D:=⟨false,.tup [],[],[],[],(s.lv,s.nx),false,none⟩
    exact⟨sN,_,.cons (d:=d) ho ⟨hd,hgf,(by intro h;cases h),fun _=>⟨rfl,rfl,rfl,rfl,rfl,rfl⟩,by simp[d],by simp[d,Qa.keys]⟩ (Jt s o d s rfl fun x=>by simp[d,Qa.keys]) hp.2.2.1 hp.1 (Nat.le_of_eq hp.2.2.2.symm) rfl (by intro h;cases h) (fun _=>⟨rfl,rfl,rfl⟩) (fun _=>⟨rfl,rfl⟩) rfl hc,hk⟩
   ·have h:=hyes rfl;have plain:JC C o s (fun s'=>runS C true ops l s' K X)->∃ sN D,vU C ops k (l.length+1) s sN D/\K sN:=by
     rintro⟨hd,v,u,hop,h⟩;obtain⟨ro,wi,wo,q1,q2,q3,q4,_,_,q7,q8⟩:=plainD' (C:=C) hn hop;have hnx:=hn.upd u;have hp:=YO (({ s with σ:=u.app s.σ (s.lv,s.nx) }:ASt).next u.Wf) o.dst v;obtain⟨sN,D,hc,hk⟩:=VD l (k+1) _ hops' (hnx.put o.dst v) h
     let d:Awp.D:=⟨true,v,ro,wi,wo,(s.lv,s.nx),u.Wf,none⟩
     refine⟨sN,_,.cons (d:=d) ho ⟨hd,hgf,fun _=>by rw[Uq];exact q1,(by intro h;cases h),q2,q3⟩ (Jt s o d (({ s with σ:=u.app s.σ (s.lv,s.nx) }:ASt).next u.Wf) rfl q4) (hp.2.2.1.trans rfl) (hp.1.trans rfl) ?_ rfl ?_ q7 q8 rfl hc,hk⟩
     ·rw[hp.2.2.2];show s.nx<=if u.Wf=true then s.nx+1 else s.nx
      split<;>omega
     ·intro hu;have hu:u.Wf=true:=hu;rw[hp.2.2.2];show s.nx<if u.Wf=true then s.nx+1 else s.nx
      rw[if_pos hu];omega
    unfold ZL at h;split at h
    ·rename_i c hc;split at h
     ·rename_i f hf;obtain⟨hd,fn,first,cap,args,hfv,hvs,args',v,ids,hp,hz,hfl,h⟩:=h;have hpd:=YO ({ s with σ:=s.σ }:ASt) o.dst v;obtain⟨sN,D,hch,hk⟩:=VD l (k+1) _ hops' (Neat.put (s:={ s with σ:=s.σ }) hn o.dst v) h
      let d:Awp.D:=⟨true,v,Qa.only s.σ ids,[],[],(s.lv,s.nx),false,none⟩
      refine⟨sN,_,.cons (d:=d) ho ⟨hd,hgf,fun _=>?_,(by intro h;cases h),fun x hx=>?_,?_⟩ (Jt s o d { s with σ:=s.σ } rfl fun x=>by simp[d,Qa.keys]) hpd.2.2.1 hpd.1 (Nat.le_of_eq hpd.2.2.2.symm) rfl (by intro h;cases h) (fun hi=>?_) (fun _=>⟨rfl,rfl⟩) rfl hch,hk⟩
      ·rw[Uq];simp only[d,List.append_nil];exact LT.call hc hf hfv hvs hp hz hfl
      ·have hx:x∈Qa.only s.σ ids:=by simpa[d] using hx
       exact (Ze.1 hx).1
      ·simpa[d] using Ym hn.nodup ids
      ·rw[hc] at hi;cases hi
     ·exact plain h
    ·rw[if_neg (by simp)] at h;exact plain h
    ·rw[if_pos rfl] at h;exact h.elim
    ·exact plain h
end
def jf (ops:List Oper):Bool:=
 let P:=WQ ops []
 uF ops&&ops.zipIdx.all fun (o,i)=>ops.zipIdx.all fun (o',i')=>decide (i<=i')||(P.getD i []).contains i' || ((!QG o'.op||WY o.op)&&(!QG o.op||WY o'.op))
def Amb.bump (E:Amb):Amb:={ E with w:={ E.w with drawn:=E.w.drawn+1 } }
theorem ZJ {E:Amb}:E.Le E.bump:=⟨fun _ _ h=>h,fun _ _ _=>rfl,fun _=>Loc.Le.refl _,fun _ _ _ _ h=>h⟩
theorem VX {E:Amb} {σ:Qa} (h:Qk E σ):Qk E.bump σ:=
 ⟨fun id b hm=>(h.blk id b hm).keep ZJ rfl (fun _ _=>rfl) fun _ _ _ hi=>hi,h.nodup,h.apart,h.imm,h.fin⟩
theorem qb {E:Amb} {σ:Qa}:Grow E σ E.bump σ:=
 ⟨ZJ,fun _ _ _=>rfl,fun _ _ h=>.inl h,fun _ _ _=>rfl,fun _ h=>.inl h,fun _ h=>.inr h,rfl,rfl,rfl,Nat.le_refl _⟩
section
variable {C:Ctx} {ops:Array Oper}
theorem Wiz {id:Nat} {K:QH->ASt->Prop} {s:ASt} {X:V->ASt->Prop} (hreg:jf ops.toList=true) (h:runS C true ops ops.toList s (K .normal) X):AW C (.region id ops true) K s:=fun E a hr=>by
 unfold jf at hreg;simp only[Bool.and_eq_true] at hreg;obtain⟨hok,hpairs⟩:=hreg;have hR:=VE hok;rw[Array.toArray_toList] at hR;have hneat:Neat s:=⟨hr.store.nodup,fun k hk hm=>by
  obtain⟨b,_,hb⟩:=hr.store.mem hm;exact hb.born (hr.own k hk)⟩
 obtain⟨sN,D,hc,hk⟩:=VD (C:=C) (ops:=ops) ops.toList 0 s (fun j=>by simp) hneat h;rw[Array.length_toList] at hc;have get:∀ {i:Nat} {o:Oper},ops[i]? = some o->(o,i)∈ops.toList.zipIdx:=fun {i o} hi=>by
  refine List.mem_zipIdx_iff_getElem?.2 ?_;simpa using hi
 have pair:∀ i i' o o',i' < i->ops[i]? = some o->ops[i']? = some o'->i'∉(WQ ops.toList []).getD i []->(QG o'.op=false∨WY o.op=true)/\(QG o.op=false∨WY o'.op=true):=fun i i' o o' hlt ho ho' hn=>by
  have h1:=List.all_eq_true.1 hpairs _ (get ho);have h2:=List.all_eq_true.1 h1 _ (get ho');simp only[Bool.or_eq_true,decide_eq_true_eq,List.contains_iff_mem,Bool.and_eq_true,Bool.not_eq_true'] at h2;rcases h2 with (h2|h2)|h2
  ·omega
  ·exact absurd h2 hn
  ·exact h2
 have opAt:∀ i,i<ops.size->∃ o,ops[i]? = some o:=fun i hi=>⟨_,Array.getElem?_eq_getElem hi⟩
 have hD:vR (fun i=>(WQ ops.toList []).getD i []) s.lv D ops.size:=by
  refine⟨fun i i' hlt hi hn id hid=>?_,fun i i' hlt hi hn id hid=>?_,fun i i' hi hi' hne hw hw' e=>?_,fun i _=>hc.j1 i⟩
  ·obtain⟨o,ho⟩:=opAt i hi;obtain⟨o',ho'⟩:=opAt i' (by omega);rcases (pair i i' o o' hlt ho ho' hn).1 with hq|hq
   ·obtain⟨e1,e2⟩:=hc.reads i' o' (Nat.zero_le _) (by omega) ho' hq;rw[e1,e2] at hid;simp[Qa.keys] at hid
   ·obtain⟨e1,e2,e3⟩:=hc.idle i o (Nat.zero_le _) (by omega) ho hq;rw[e1,e2,e3];simp[Qa.keys]
  ·obtain⟨o,ho⟩:=opAt i hi;obtain⟨o',ho'⟩:=opAt i' (by omega);rcases (pair i i' o o' hlt ho ho' hn).2 with hq|hq
   ·obtain⟨e1,e2⟩:=hc.reads i o (Nat.zero_le _) (by omega) ho hq;rw[e1,e2] at hid;simp[Qa.keys] at hid
   ·obtain⟨e1,e2,e3⟩:=hc.idle i' o' (Nat.zero_le _) (by omega) ho' hq;rw[e1];simp[Qa.keys]
  ·rcases Nat.lt_or_gt_of_ne hne with hlt|hlt
   ·have:=hc.j4 i i' (Nat.zero_le _) hlt hw (by omega) (by omega);rw[e] at this;omega
   ·have:=hc.j4 i' i (Nat.zero_le _) hlt hw' (by omega) (by omega);rw[e] at this;omega
 refine wp_region_any C.mixed ?_;have hrm:RelM C s.n s.lv (toMS s) E.bump a:=⟨fun t v hv=>(hr.tmp t v hv).mono ZJ,hr.size,⟨s.σ,VX hr.store,fun x=>Iff.rfl⟩,hr.glob.mono ZJ⟩
 have hfin:=qc (C:=C) (ops:=ops) (N:=s.n) (lv:=s.lv) hR hD (Q:=fun e a' w'=>∃ E' ae s',Post C K s E a e a' w' E' ae s') (List.range' 0 ops.size) (Array.replicate ops.size false) (toMS s) E.bump a ?_ (by simp) ?_ ?_ hrm hc.en ?_ (fun i hi=>hc.pan i (Nat.zero_le _) (by have:=(List.mem_range'_1.1 hi).2;omega)) ?_
 ·rw[List.length_range'] at hfin;exact hfin
 ·intro i;rw[List.mem_range'_1];constructor
  ·intro hi;have:i<ops.size:=by omega
   exact⟨this,by simp[this]⟩
  ·rintro⟨hi,_⟩;omega
 ·exact List.pairwise_lt_range'
 ·intro i hi hli;simp[hi] at hli
 ·intro i hi hw hnw;have hj1:=hc.j1 i;have hj2:=hc.j2 i (Nat.zero_le _);have:(D i).j=(s.lv,(D i).j.2):=by rw[<- hj1]
  rw[this];exact hr.own _ hj2
 ·intro E' a' hrm' hg hd hb;rw[hc.app] at hrm' hg;obtain⟨σ',hst',hmem'⟩:=hrm'.store;have hrel:Rel C sN E' a':=by
   refine⟨hrm'.tmp,by rw[hc.n];exact hrm'.size,hst'.part (fun x hx=>(hmem' x).2 hx) hc.neat.nodup,fun k hk=>?_,hrm'.glob⟩;rw[hc.lv];refine hb (s.lv,k) (Nat.le_refl _) (fun i hi hnw e=>?_) (hr.own k (Nat.le_trans hc.nx hk));have hi':=(List.mem_range'_1.1 hi).2;have:=hc.j3 i (Nat.zero_le _) hi' hnw;rw[<- e] at this;simp only at this;omega
  refine⟨E',.normal,sN,rfl,.normal,hk,hrel,qb.trans (hg s.σ sN.σ (fun _=>Iff.rfl) (fun _=>Iff.rfl)),hd,hc.lv,fun id hi hu=>hb id (by omega) (fun i _ _ e=>?_) hu⟩;have:=hc.j1 i;rw[<- e] at this;omega
end
end Go.Awp
