/- AWP, text 12: the operations on growing slices, and on what is built. -/
import Derived.Test.YtnielafbkgpgjaaGreatDoorX4
set_option linter.all false
set_option maxRecDepth 100000
set_option maxHeartbeats 8000000
namespace Go.Awp
open Go
def Wm (P:Program) (t:TypeId):Option (List (Nat × Nat)):=
 (P.underlying t).bind fun|.struct fs=>fs.toList.mapM (fun f=>(P.info? f.type).map fun i=>(f.offset,i.size))|_=>none
def qo (place:Nat->Option (Nat × Nat)):List (Nat × V)->List V->Option (List V)
 | [],cs=>some cs
 | (i,v)::r,cs=>(place i).bind fun p=>if v.wf=true/\v.cells.length=p.2/\p.1+p.2<=cs.length then qo place r (setL cs p.1 v.cells) else none
def vE (P:Program) (t:TypeId) (ps:List (Nat × V)):Option V:=
 (QQ P t).bind fun z=>match Wm P t with
   | some pl=>(qo (pl[·]?) ps z.cells).map .agg
   | none=>(arrT P t).bind fun me=>(Qx P me.2).bind fun n=>(qo (fun i=>some (i*n,n)) ps z.cells).map .agg
def litV (P:Program) (t:TypeId) (len:Nat) (ps:List (Nat × V)):Option (List V):=
 (Wt P t).bind fun el=>(Qx P el).bind fun n=>(QQ P el).bind fun z=>
   if ps.map (·.1)=List.range len/\len*n<=16777216/\z.cells.length=n/\(∀ p∈ps,p.2.wf=true/\p.2.cells.length=n) then some (ps.map (·.2)) else none
def WO (P:Program) (lk:Operand->Option V) (get:Id->Option Blk) (j:Id):Op->Option (V × Upd)
 | .call c=>match c.callee,c.args.toList,c.argTypes.toList with
   | .builtin .append,[s,x],[t,tx]=>(lk s).bind fun s=>(lk x).bind fun x=>appV P get j t tx s x
   | .builtin .len,[x],[t]=>(lk x).bind fun
     | .vec id ver=>if Qo P t = .slice then (get id).bind fun|.vec _ _ es ver' _=>if ver=ver' then some (.int .i64 es.length,.none) else none|_=>none else none
     | _=>none
   | _,_,_=>none
 | .indexAddr t x i=>(lk x).bind fun v=>(lk i).bind fun k=>match v,k with
   | .vec id ver,.int _ k=>(Wt P t).bind fun el=>(Qx P el).bind fun n=>(get id).bind fun
     | .vec _ s es ver' _=>if ver=ver'/\s=n/\0<=k/\k.toNat<es.length then some (.eptr id ver s k.toNat 0,.none) else none
     | _=>none
   | _,_=>none
 | .makeSlice t l c=>(lk l).bind fun l=>(lk c).bind fun c=>match l,c with
   | .int _ n,.int _ m=>(Wt P t).bind fun el=>(Qx P el).bind fun s=>(XC P el).bind fun bb=>(QQ P el).bind fun z=>
      if 0<=n/\n<=m/\m<=9223372036854775807/\m.toNat*bb<=140737488355328/\z.cells.length=s/\0<s then some (.vec j 1,.new (.vec el s (List.replicate n.toNat z) 1 true)) else none
   | _,_=>none
 | .build t ps=>(YH lk ps.toList).bind fun ps=>(vE P t ps).map (·,.none)
 | .buildSlice t len ps=>(YH lk ps.toList).bind fun ps=>(litV P t len ps).map fun es=>(if len=0 then .snil else .slice es,.none)
 | _=>none
section
variable {P:Program} {lk:Operand->Option V} {σ:Qa} {j:Id} {E:Amb}
theorem RepL.of_get {vs:List V} {cvs:List Value} (hl:cvs.length=vs.length) (h:∀ (i:Nat) v cv,vs[i]? = some v->cvs[i]? = some cv->Rep E v cv):RepL E vs cvs:=by
 induction vs generalizing cvs with
 | nil=>cases cvs with|nil=>exact .nil|cons=>simp at hl
 | cons v vs ih=>
   cases cvs with
   | nil=>simp at hl
   | cons c cs=>exact .cons (h 0 v c rfl rfl) (ih (by simpa using hl) fun i u cu h1 h2=>h (i+1) u cu (by simpa using h1) (by simpa using h2))
theorem ZS {place:Nat->Option (Nat × Nat)} {ps:List (Nat × V)} {cs cs':List V} {cps:List (Nat × Value)} {cells:Array Value} (h:qo place ps cs=some cs')
 (hp:cps.map (·.1)=ps.map (·.1)) (hr:RepL E (ps.map (·.2)) (cps.map (·.2))) (hc:RepL E cs cells.toList) (hs:∀ c∈cs,c.scalar=true):
 ∃ cells',Instr.fill place cells cps=some cells'/\RepL E cs' cells'.toList/\(∀ c∈cs',c.scalar=true)/\cs'.length=cs.length:=by
 induction ps generalizing cs cps cells with
 | nil=>
   cases cps with
   | nil=>simp[qo] at h;subst h;exact⟨cells,rfl,hc,hs,rfl⟩
   | cons=>simp at hp
 | cons p ps ih=>
   obtain⟨i,v⟩:=p;cases cps with
   | nil=>simp at hp
   | cons q qs=>
     obtain⟨i',cv⟩:=q;simp only[List.map_cons,List.cons.injEq] at hp hr;obtain⟨rfl,hp⟩:=hp;cases hr with
     | cons hv hr=>
       simp only[qo] at h;obtain⟨⟨o,n⟩,hpl,h1⟩:=Option.bind_eq_some_iff.1 h;split at h1
       ·rename_i hcnd;obtain⟨hw,hn,hle⟩:=hcnd;simp only at hn hle;have hcc:=hv.cells hw;have hlen:cv.cells.size=n:=by rw[<- hn];simpa using hcc.1.length
        have hcl:cells.size=cs.length:=by simpa using hc.length
        have hfold:∀ (l:List Value) (k:Nat) (a:Array Value),o+k+l.length<=a.size->
         ((l.zipIdx k).foldl (fun cs (x:Value × Nat)=>cs.setIfInBounds (o+x.2) x.1) a).toList=a.toList.take (o+k)++l++a.toList.drop (o+k+l.length):=by
         intro l
         induction l with
         | nil=>intro k a _;simp
         | cons x l ihl=>
           intro k a ha;simp only[List.zipIdx_cons,List.foldl_cons];rw[ihl (k+1) _ (by simp at ha ⊢;omega)];simp only[Array.toList_setIfInBounds];apply List.ext_getElem?;intro q;simp only[List.length_cons] at ha;simp only[List.getElem?_append,List.getElem?_take,List.getElem?_drop,List.getElem?_set,List.length_append,List.length_take,List.length_set,Array.length_toList,List.length_cons]
           repeat' split
           all_goals first
            | rfl
            | omega
            | (congr 1;omega)
            | (rename_i h;rw[show q - min (o+k) a.size=(q - min (o+(k+1)) a.size)+1 by omega];simp)
            | (have:q - min (o+k) a.size=0:=by omega
               rw[this];rfl)
            | simp_all
        have hstep:(cv.cells.zipIdx.foldl (fun cs (x:Value × Nat)=>cs.setIfInBounds (o+x.2) x.1) cells).toList=cells.toList.take o++cv.cells.toList++cells.toList.drop (o+cv.cells.toList.length):=by
         have:=hfold cv.cells.toList 0 cells (by simp;omega);simp only[Nat.add_zero] at this;rw[<- this,<- Array.foldl_toList,Array.toList_zipIdx]
        obtain⟨cells',h2,h3,h4,h5⟩:=ih (cells:=cv.cells.zipIdx.foldl (fun cs (x:Value × Nat)=>cs.setIfInBounds (o+x.2) x.1) cells) h1 hp hr (by rw[hstep];exact hc.setL hcc.1 o) (fun c hm=>by
         rcases jD hm with hm|hm
         ·exact hs c hm
         ·exact hcc.2 c hm)
        refine⟨cells',?_,h3,h4,by rw[h5,Ui (by omega)]⟩;simp only[Instr.fill,hpl];rw[if_neg (by simp[hlen];omega)];exact h2
       ·cases h1
theorem qz {ps:List (Nat × Operand)} {vs:List (Nat × V)} {ρ:Operand->Value} (h:YH lk ps=some vs) (hρ:∀ p∈ps,∀ v,lk p.2=some v->Rep E v (ρ p.2)):
 (ps.map fun p=>(p.1,ρ p.2)).map (·.1)=vs.map (·.1)/\RepL E (vs.map (·.2)) ((ps.map fun p=>(p.1,ρ p.2)).map (·.2)):=by
 induction ps generalizing vs with
 | nil=>simp[YH] at h;subst h;exact⟨rfl,.nil⟩
 | cons p ps ih=>
   obtain⟨i,x⟩:=p;simp only[YH] at h;obtain⟨v,hv,h1⟩:=Option.bind_eq_some_iff.1 h;obtain⟨us,hu,h2⟩:=Option.bind_eq_some_iff.1 h1;cases h2;have h3:=ih hu fun q hq=>hρ q (by simp[hq]);exact⟨by simpa using h3.1,.cons (hρ (i,x) (by simp) v hv) h3.2⟩
theorem Qdw {t:TypeId} {ps:List (Nat × V)} {v:V} {cps:List (Nat × Value)} (h:vE P t ps=some v) (hp:cps.map (·.1)=ps.map (·.1)) (hr:RepL E (ps.map (·.2)) (cps.map (·.2))):
 ∃ cv,(Instr.build t cps.toArray).run P E.w = .ok cv E.w/\Rep E v cv:=by
 unfold vE at h;obtain⟨z,hz,h1⟩:=Option.bind_eq_some_iff.1 h;obtain⟨cz,hz0,hzv⟩:=Option.bind_eq_some_iff.1 (show ((P.info? t).bind (·.zero)).bind ofV=some z from hz);obtain⟨it,hit,hz1⟩:=Option.bind_eq_some_iff.1 hz0;have hzr:=qR (E:=E) hzv;have hzw:z.wf=true:=by
  have h2:=hzr.2;cases z<;>first|rfl|(have:=h2 _ (by simp[V.cells];rfl);simp[V.scalar] at this)
 have hzc:=hzr.1.cells hzw;split at h1
 ·rename_i pl hpl;obtain⟨cs,hcs,rfl⟩:=Option.map_eq_some_iff.1 h1;obtain⟨cells',h2,h3,h4,_⟩:=ZS hcs hp hr hzc.1 hzc.2;refine⟨.agg cells',?_,by have:=Rep.agg h3 h4;simpa using this⟩;apply run_build;unfold Wm at hpl;obtain⟨d,hd,hpl⟩:=Option.bind_eq_some_iff.1 hpl;cases d<;>simp at hpl;rename_i fs;unfold Program.built;simp only[hit,hd,hz1];simp only[hpl];simpa using h2
 ·obtain⟨⟨m,e⟩,he,h2⟩:=Option.bind_eq_some_iff.1 h1;obtain⟨n,hn,h3⟩:=Option.bind_eq_some_iff.1 h2;obtain⟨cs,hcs,rfl⟩:=Option.map_eq_some_iff.1 h3;obtain⟨cells',h4,h5,h6,_⟩:=ZS hcs hp hr hzc.1 hzc.2;refine⟨.agg cells',?_,by have:=Rep.agg h5 h6;simpa using this⟩;apply run_build;obtain⟨ie,hie,rfl⟩:=qv hn;unfold Program.built;simp only[hit,Jr he,hz1];simp only at hie;simp only[hie];exact h4
theorem vk {n:Nat}:∀ (ps:List (Nat × V)) (k:Nat) (cs:List V),ps.map (·.1)=List.range' k ps.length->(∀ p∈ps,p.2.wf=true/\p.2.cells.length=n)->cs.length=(k+ps.length)*n->
 qo (fun i=>some (i*n,n)) ps cs=some (cs.take (k*n)++(ps.map (·.2)).flatMap V.cells)
 | [],k,cs,_,_,hl=>by
   simp only[List.length_nil,Nat.add_zero] at hl;simp only[qo,List.map_nil,List.flatMap_nil,List.append_nil];rw[<- hl,List.take_length]
 | (i,v)::ps,k,cs,hm,hp,hl=>by
   simp only[List.map_cons,List.length_cons,List.range'_succ,List.cons.injEq] at hm;obtain⟨rfl,hm⟩:=hm;have hv:=hp (i,v) (by simp);simp only at hv;simp only[List.length_cons] at hl;have e1:(i+(ps.length+1))*n=i*n+n+ps.length*n:=by
    rw[<- Nat.succ_mul,<- Nat.add_mul];congr 1;omega
   simp only[qo,Option.bind_some];rw[if_pos ⟨hv.1,hv.2,by omega⟩];have hl2:(setL cs (i*n) v.cells).length=(i+1+ps.length)*n:=by
    rw[Ui (by omega),hl];congr 1;omega
   rw[vk ps (i+1) _ hm (fun p hp'=>hp p (by simp[hp'])) hl2];simp only[List.map_cons,List.flatMap_cons];rw[<- List.append_assoc];congr 2;unfold setL;rw[Nat.succ_mul,List.append_assoc,List.take_append,List.take_take];have e2:(cs.take (i*n)).length=i*n:=by simp;omega
   rw[e2,Nat.min_eq_right (by omega),Nat.add_sub_cancel_left,List.take_append_of_le_length (by omega),<- hv.2,List.take_length]
theorem Vb {n m:Nat} {z:V} {zc:Array Value} (hr:RepL E z.cells zc.toList) (hz:z.cells.length=n) (h0:0<n):
 RepL E ((List.replicate m z).flatMap V.cells) ((Array.range (m*n)).map fun k=>zc[k % zc.size]!).toList:=by
 have hu:∀ e∈List.replicate m z,e.cells.length=n:=fun e he=>by rw[(List.mem_replicate.1 he).2,hz]
 have hzs:zc.size=n:=by rw[<- hz];simpa using hr.length
 refine RepL.of_get (by rw[Yt hu];simp) fun k v cv hv hc=>?_;have hk:k<m*n:=by
  have:=(List.getElem?_eq_some_iff.1 hc).1;simpa using this
 have hdiv:k / n<m:=Nat.div_lt_of_lt_mul (by rw[Nat.mul_comm];exact hk);have hmod:k % n<n:=Nat.mod_lt _ h0;have hget:=flat_get hu (i:=k / n) (e:=z) (by rw[List.getElem?_replicate,if_pos hdiv]) hmod;rw[Nat.mul_comm,Nat.div_add_mod] at hget;rw[hget] at hv;obtain⟨cu,h1,h2⟩:=hr.get hv;have:cv=cu:=by
  simp only[Array.toList_map,List.getElem?_map] at hc;have e3:(Array.range (m*n)).toList[k]? = some k:=by simp[hk]
  rw[e3] at hc;simp only[Option.map_some,Option.some.injEq] at hc;rw[<- hc,hzs];have h1':zc[k % n]? = some cu:=by simpa using h1
  simp[getElem!_def,h1']
 rw[this];exact h2
theorem Waz {t len:Nat} {ps:List (Nat × V)} {es:List V} {cps:List (Nat × Value)} (h:litV P t len ps=some es) (hs:Qk E σ) (hp:cps.map (·.1)=ps.map (·.1)) (hr:RepL E (ps.map (·.2)) (cps.map (·.2))):
 ∃ E' cv,(Instr.buildSlice t len cps.toArray).run P E.w = .ok cv E'.w/\Rep E' (if len=0 then .snil else .slice es) cv/\Qk E' σ/\Grow E σ E' σ/\∀ id,E.ι id = .unborn->E'.ι id = .unborn:=by
 unfold litV at h;obtain⟨el,he,h1⟩:=Option.bind_eq_some_iff.1 h;obtain⟨n,hn,h2⟩:=Option.bind_eq_some_iff.1 h1;obtain⟨z,hz,h3⟩:=Option.bind_eq_some_iff.1 h2;split at h3
 ·rename_i hc;obtain⟨hm,hsmall,hzn,hall⟩:=hc;cases h3;have hlen:ps.length=len:=by have:=congrArg List.length hm;simpa using this
  obtain⟨cz,hzrun,hzrep,hzok,hzl⟩:=Jk hz E;have hu:=Wk he;have hcases:∃ cells:Array Value,(Instr.buildSlice t len cps.toArray).run P E.w = .ok (.slice (some ⟨E.w.heap.size,0,none⟩) len len) (E.w.alloc (.cells cells el))/\RepL E ((ps.map (·.2)).flatMap V.cells) cells.toList:=by
   have hfa:=vk (n:=n) ps 0;by_cases h0:len*n=0
   ·obtain⟨cells',hf,hcr,_,_⟩:=ZS (cells:=#[]) (hfa [] (by rw[hm,hlen,List.range_eq_range']) hall (by rw[Nat.zero_add,hlen,h0];rfl)) hp hr .nil (by simp);refine⟨cells',?_,by simpa using hcr⟩;have:¬ len*n > 2 ^ 24:=by omega
    have hr0:Array.range 0 = #[]:=rfl;simp[Instr.buildSlice,run_underlying hu,QK hn,h0,hr0,hf,newRow]
   ·have hn0:0<n:=by rcases Nat.eq_zero_or_pos n with e|e;subst e;simp at h0;exact e
    have hzr:=Vb (m:=len) hzl hzn hn0;have hrl:((List.replicate len z).flatMap V.cells).length=len*n:=by
     rw[Yt (s:=n) fun e he=>by rw[(List.mem_replicate.1 he).2,hzn]];simp
    obtain⟨cells',hf,hcr,_,_⟩:=ZS (hfa _ (by rw[hm,hlen,List.range_eq_range']) hall (by rw[hrl,Nat.zero_add,hlen])) hp hr hzr
     (fun c hm=>by obtain⟨e,he,hm'⟩:=List.mem_flatMap.1 hm;rw[(List.mem_replicate.1 he).2] at hm';exact hzok c hm')
    refine⟨cells',?_,by simpa using hcr⟩;have:¬ len*n > 2 ^ 24:=by omega
    simp[Instr.buildSlice,run_underlying hu,QK hn,h0,hf,newRow,hzrun];omega
  obtain⟨cells,hrun,hcr⟩:=hcases;obtain⟨hle,hs',hg,hb,hcell⟩:=alloc_imm hs cells el;refine⟨_,_,hrun,?_,hs',hg,hb⟩;split
  ·rename_i h0;subst h0;exact .snil _
  ·have hok:∀ e∈ps.map (·.2),e.cells.length=n/\e.ok:=fun e he=>by
    obtain⟨p,hp',rfl⟩:=List.mem_map.1 he;obtain⟨i,hi⟩:=List.getElem?_of_mem he;obtain⟨cv,_,hrep⟩:=hr.get hi;exact⟨(hall p hp').2,(hrep.cells (hall p hp').1).2⟩
   have:=Rep.slice (E:=E.alloc (.cells cells el) none) (cap:=len) (hcr.mono hle) (b:=E.w.heap.size) (o:=0) (fun j u hj=>by rw[Nat.zero_add];exact hcell j u (by simpa using hj)) hok (by simp[hlen]);rw[show (ps.map (·.2)).length=len by simp[hlen]] at this;exact this
 ·cases h3
theorem UJ {id:Id} {ver:Nat} {cx:Value} {t:TypeId} {s:Nat} {es:List V} {wr:Bool} (hx:Rep E (.vec id ver) cx) (hb:Wd E id (.vec t s es ver wr)):
 ∃ hv xs,E.ι id = .vec hv ver/\cx=hv/\Owns E.w t s hv es.length xs/\RepL E (es.flatMap V.cells) xs/\(∀ e∈es,e.cells.length=s/\e.ok)/\0<s/\∀ b,hblk hv=some b->∀ o,E.I b o->wr=false/\o<es.length*s:=by
 obtain⟨hv,xs,e,ho,hr,hs,h0,hI⟩:=hb;cases hx with
 | vec h1 h2 h3=>rw[e] at h1;cases h1;exact⟨_,xs,e,(h3 rfl).symm,ho,hr,hs,h0,hI⟩
theorem Owns.shape {w:World} {t s n:Nat} {hv:Value} {xs:List Value} (h:Owns w t s hv n xs):∃ a c,hv = .slice a n c:=by
 rcases h.2 with⟨a,rfl,rfl⟩|⟨g,cap,cur,_,rfl,_⟩<;>exact⟨_,_,rfl⟩
theorem Wjq {t tx ty:TypeId} {s x v:V} {cs cx:Value} {u:Upd} (h:appV P σ.get j t tx s x=some (v,u)) (hst:Qk E σ) (hj:E.ι j = .unborn) (hs:Rep E s cs) (hx:Rep E x cx):
 ∃ E' cv,(Builtin.append_ #[t,tx] ty #[cs,cx]).run P E.w = .ok cv E'.w/\Rep E' v cv/\Qk E' (u.app σ j)/\Grow E σ E' (u.app σ j)/\∀ id,(u.Wf=true->id≠j)->E.ι id = .unborn->E'.ι id = .unborn:=by
 unfold appV at h;obtain⟨el,he,h⟩:=Option.bind_eq_some_iff.1 h;obtain⟨n,hn,h1⟩:=Option.bind_eq_some_iff.1 h;obtain⟨bb,hbb,h2⟩:=Option.bind_eq_some_iff.1 h1;obtain⟨z,hz,h3⟩:=Option.bind_eq_some_iff.1 h2;obtain⟨xs,hxs,h4⟩:=Option.bind_eq_some_iff.1 h3;clear h h1 h2 h3;obtain⟨cz,hz0,hzv⟩:=Option.bind_eq_some_iff.1 (show ((P.info? el).bind (·.zero)).bind ofV=some z from hz);obtain⟨i,hi,hz1⟩:=Option.bind_eq_some_iff.1 hz0;have hin:i.size=n:=by obtain⟨i',e1,e2⟩:=qv hn;rw[hi] at e1;cases e1;exact e2
 have hib:i.bytes=bb:=by obtain⟨i',e1,e2⟩:=zV hbb;rw[hi] at e1;cases e1;exact e2
 subst hin;subst hib;have hzr:=qR (E:=E) hzv;have hzw:z.wf=true:=by
  have h2:=hzr.2;cases z<;>first|rfl|(have:=h2 _ (by simp[V.cells];rfl);simp[V.scalar] at this)
 have hzc:=(hzr.1.cells hzw).1;split at h4
 ·rename_i hcond;obtain⟨hzn,hn0⟩:=hcond;have hzs:cz.cells.size=i.size:=by rw[<- hzn];simpa using hzc.length
  obtain⟨news,hnr,hxe,happ⟩:∃ news,RepL E (xs.flatMap V.cells) news/\(∀ e∈xs,e.cells.length=i.size/\e.ok)/\∀ {hv:Value} {n:Nat} {ys:List Value},Owns E.w el i.size hv n ys->n+xs.length<=maxLen->(n+xs.length)*i.bytes<=140737488355328->
   ∃ hv' w',(Builtin.append_ #[t,tx] ty #[hv,cx]).run P E.w = .ok hv' w'/\Owns w' el i.size hv' (n+xs.length) (ys++news)/\w'.os=E.w.os/\w'.tape=E.w.tape/\w'.output=E.w.output/\
    E.w.heap.size<=w'.heap.size/\(∀ k,k<E.w.heap.size->hblk hv≠some k->w'.heap[k]? = E.w.heap[k]?)/\(∀ k o,hblk hv=some k->o<n*i.size->w'.cell? ⟨k,o,none⟩=E.w.cell? ⟨k,o,none⟩)/\
    (∀ k,hblk hv' = some k->hblk hv=some k∨E.w.heap.size<=k):=by
   by_cases hint:∃ k0 k,x = .int k0 k
   ·obtain⟨k0,k,rfl⟩:=hint;simp only[srcZ] at hxs;split at hxs
    ·rename_i hc;obtain⟨k1,hk1⟩:∃ k1,Qo P tx = .int k1:=by
      have h1:=hc.1;unfold Wcw at h1;split at h1
      ·rename_i k1 h;exact⟨k1,h⟩
      ·cases h1
     cases hxs;cases hx;have hkn:(k.toNat:Int)=k:=Int.toNat_of_nonneg hc.2;have hzl:=hzc;have h0:=Vb (E:=E) (m:=k.toNat) hzl hzn hn0;have hze:(Builtin.zeroCells cz.cells k.toNat).toList=((Array.range (k.toNat*i.size)).map fun q=>cz.cells[q % cz.cells.size]!).toList:=by
      unfold Builtin.zeroCells;rw[hzs]
     rw[<- hze] at h0;have hsc:∀ c∈(List.replicate k.toNat z).flatMap V.cells,c.scalar=true:=fun c hm=>by
      obtain⟨e,he2,hm'⟩:=List.mem_flatMap.1 hm;rw[(List.mem_replicate.1 he2).2] at hm';exact hzr.2 c hm'
     refine⟨_,h0,fun e he2=>by rw[(List.mem_replicate.1 he2).2];exact⟨hzn,hzr.2⟩,fun {hv n ys} ho h1 h2=>?_⟩;rw[List.length_replicate] at h1 h2 ⊢;have:=Qfq (ty:=ty) (k1:=k0) (Wk he) (Yy hk1) hi hz1 hzs ho rfl (h0.scalars hsc) h1 h2
     rwa [hkn] at this
    ·cases hxs
   ·have hsz:srcZ P σ.get i.size tx z x=srcV P σ.get i.size tx x:=by
     cases x<;>first|rfl|exact absurd ⟨_,_,rfl⟩ hint
    rw[hsz] at hxs;obtain⟨news,d,hsrc,hnr,hxe,htx,hd⟩:=qq hxs hst hx;exact⟨news,hnr,hxe,fun ho h1 h2=>QHz (ty:=ty) (Wk he) htx hd hi hz1 hzs ho hsrc h1 h2⟩
  split at h4
  ·rename_i id ver;obtain⟨k,hk,h5⟩:=Option.bind_eq_some_iff.1 h4;split at h5
   ·rename_i t' s' es ver' wr;split at h5
    ·rename_i hc;obtain⟨rfl,rfl,rfl,hb1,hb2⟩:=hc;cases h5;have hm:=Qa.get_mem hk;obtain⟨hv,ys,eι,rfl,hown,hr,hes,h0,hI⟩:=UJ hs (hst.blk _ _ hm);obtain⟨hv',w',hrun,hown',hos,htape,hout,hsz,hoth,hcell,hnew⟩:=happ hown (by simp only[maxLen];omega) hb2;have hblk:(E.ι id).block=hblk cs:=by rw[eι];rfl
     have key:=Vd hst hm hv' (ver+1) w' (k':=.vec t' i.size (es++xs) (ver+1) wr) (by rw[eι];exact⟨_,_,rfl,Nat.le_succ _,fun e=>absurd e (by omega)⟩) hos htape hout hsz
      (fun k hk hne=>hoth k hk (by rw[<- hblk];exact hne))
      (fun b hb o hi=>hcell b o (by rw[<- hblk];exact hb) ((hI b (by rw[<- hblk];exact hb) o hi).2))
      (fun b hb=>(hnew b hb).imp (fun h=>by rw[hblk];exact h) fun h=>h)
     obtain⟨g1,g2,g3⟩:=key fun hle=>by
      refine⟨hv',ys++news,by simp,by simpa using hown',?_,?_,h0,?_⟩
      ·rw[List.flatMap_append];exact (hr.mono hle).append (hnr.mono hle)
      ·intro e he;rcases List.mem_append.1 he with he|he
       ·exact hes e he
       ·exact hxe e he
      ·intro b hb o hi;rcases hnew b hb with e|e
       ·have:=hI b e o hi;refine⟨this.1,?_⟩;rw[List.length_append,Nat.add_mul];omega
       ·have:=hst.imm b o hi;omega
     refine⟨_,hv',hrun,?_,g1,g2,fun i _ hi=>g3 i hi⟩;obtain⟨a,c,rfl⟩:=hown'.shape;exact .vec (ver':=ver+1) (hv:=_) (by simp) (Nat.le_refl _) fun _=>rfl
    ·cases h5
   ·cases h5
  ·split at h4
   ·rename_i hc;cases h4;obtain⟨ad,rfl⟩:∃ a,cs = .slice a 0 0:=by cases hs;exact⟨_,rfl⟩
    have hown:Owns E.w el i.size (.slice ad 0 0) 0 []:=⟨by simp,.inl ⟨ad,rfl,rfl⟩⟩
    obtain⟨hst1,hg1,hb1⟩:=thaw hst hj el i.size hn0 ad;obtain⟨hv',w',hrun,hown',hos,htape,hout,hsz,hoth,hcell,hnew⟩:=happ hown (by simp only[maxLen];omega) (by simpa using hc.2);have hnb:hblk (.slice ad 0 0)=none:=by cases ad<;>rfl
    have key:=Vd hst1 (id:=j) (k:=.vec el i.size [] 0 true) List.mem_cons_self hv' 1 w' (k':=.vec el i.size xs 1 true)
     (by simp only[if_true];exact⟨_,_,rfl,by omega,fun e=>absurd e (by omega)⟩) hos htape hout hsz
     (fun k hk hne=>hoth k hk (by rw[hnb];simp)) (fun b hb o hi=>by simp[Loc.block,hnb] at hb) (fun b hb=>(hnew b hb).imp (fun h=>by rw[hnb] at h;cases h) fun h=>h)
    obtain⟨g1,g2,g3⟩:=key fun hle=>by
     refine⟨hv',news,by simp,by simpa using hown',?_,hxe,hn0,?_⟩
     ·exact (hnr.mono hg1.le).mono hle
     ·intro b hb o hi;rcases hnew b hb with e|e
      ·rw[hnb] at e;cases e
      ·have:=hst.imm b o hi;omega
    have hput:Qa.put ((j,.vec el i.size [] 0 true)::σ) j (.vec el i.size xs 1 true)=(j,.vec el i.size xs 1 true)::σ:=by simp[Qa.put]
    rw[hput] at g1 g2;refine⟨_,hv',hrun,?_,g1,hg1.trans g2,fun i hi hu=>g3 i (hb1 i (hi rfl) hu)⟩;obtain⟨a,c,rfl⟩:=hown'.shape;simp only[Nat.zero_add];exact .vec (ver':=1) (hv:=_) (by simp) (Nat.le_refl _) fun _=>rfl
   ·cases h4
  ·cases h4
 ·cases h4
theorem wrap_i64 {n:Int} (h1:-9223372036854775808<=n) (h2:n<=9223372036854775807):IntKind.i64.wrap n=n:=by
 simp[IntKind.wrap,IntKind.bits,IntKind.signed];omega
theorem new_vec (hst:Qk E σ) (hj:E.ι j = .unborn) (t:TypeId) (s:Nat) (h0:0<s) {c:Array Value} {es:List V} {cap:Nat} {xs:List Value} (hcs:c.size=cap*s) (hmax:cap<=maxLen) (hle:es.length<=cap)
 (hx:c.toList.take (es.length*s)=xs) (hr:RepL E (es.flatMap V.cells) xs) (hes:∀ e∈es,e.cells.length=s/\e.ok):
 ∃ E',E'.w=E.w.alloc (.cells c t)/\Rep E' (.vec j 1) (.slice (some ⟨E.w.heap.size,0,none⟩) es.length cap)/\Qk E' ((j,.vec t s es 1 true)::σ)/\Grow E σ E' ((j,.vec t s es 1 true)::σ)/\
  ∀ id,id≠j->E.ι id = .unborn->E'.ι id = .unborn:=by
 obtain⟨hst1,hg1,hb1⟩:=thaw hst hj t s h0 none;have hxl:xs.length=es.length*s:=by
  rw[<- hx];simp;have:es.length*s<=cap*s:=Nat.mul_le_mul_right _ hle;omega
 have key:=Vd hst1 (id:=j) (k:=.vec t s [] 0 true) List.mem_cons_self (.slice (some ⟨E.w.heap.size,0,none⟩) es.length cap) 1 (E.w.alloc (.cells c t)) (k':=.vec t s es 1 true)
  (by simp only[if_true];exact⟨_,_,rfl,by omega,fun e=>absurd e (by omega)⟩) rfl rfl rfl (by rw[size_alloc];exact Nat.le_succ _)
  (fun k hk _=>YL _ _ _ hk) (fun b hb o hi=>by simp[Loc.block,hblk] at hb) (fun b hb=>.inr (by simp[hblk] at hb;exact Nat.le_of_eq hb.2))
 obtain⟨g1,g2,g3⟩:=key fun hle'=>by
  refine⟨.slice (some ⟨E.w.heap.size,0,none⟩) es.length cap,xs,by simp,⟨hxl,?_⟩,(hr.mono hg1.le).mono hle',hes,h0,?_⟩
  ·by_cases hc:cap=0
   ·exact .inl ⟨_,by rw[hc,show es.length=0 by omega],by omega⟩
   ·exact .inr ⟨_,cap,c,by omega,rfl,JX _ _,hle,hmax,hcs,hx⟩
  ·intro b hb o hi;simp[hblk] at hb;have:=hst.imm b o hi;omega
 have hput:Qa.put ((j,.vec t s [] 0 true)::σ) j (.vec t s es 1 true)=(j,.vec t s es 1 true)::σ:=by simp[Qa.put]
 rw[hput] at g1 g2;exact⟨_,rfl,.vec (ver':=1) (by simp) (Nat.le_refl _) fun _=>rfl,g1,hg1.trans g2,fun id hi hu=>g3 id (hb1 id hi hu)⟩
theorem OpOk.vec {o:Oper} {v:V} {u:Upd} (h:WO P lk σ.get j o.op=some (v,u)):OpOk P o lk σ j v (u.app σ j) u.Wf:=fun E ρ hs hj hρ=>by
 obtain⟨dst,op,type,pos,after,guard⟩:=o;simp only at h hρ;have wrap:∀ {s:Sem Value} {cv:Value} {w':World},s.run P E.w = .ok cv w'->(do Pure.pure (Next.value (<- s)):Sem Next).run P E.w = .ok (.value cv) w':=fun h=>by simp[h]
 unfold WO at h;split at h
 ·rename_i c;split at h
  ·rename_i s x t tx hcal hargs hats;obtain⟨vs,hvs,h1⟩:=Option.bind_eq_some_iff.1 h;obtain⟨vx,hvx,h2⟩:=Option.bind_eq_some_iff.1 h1;have ha:c.args = #[s,x]:=by rw[<- Array.toArray_toList (xs:=c.args),hargs]
   have hat:c.argTypes = #[t,tx]:=by rw[<- Array.toArray_toList (xs:=c.argTypes),hats]
   have hrs:=hρ s (by simp[Op.operands,Call.operands,ha]) _ hvs;have hrx:=hρ x (by simp[Op.operands,Call.operands,ha]) _ hvx;obtain⟨E',cv,h3,h4,h5,h6,h7⟩:=Wjq (ty:=type) h2 hs hj hrs hrx;refine⟨E',cv,.inl ?_,h4,h5,h6,h7⟩;simp only[execOp,resolve,hcal,Sem.run_bind,Sem.run_pure,Result.andThen_ok,invoke,builtin,ha,hat,List.map_toArray,List.map_cons,List.map_nil,h3]
  ·rename_i x t hcal hargs hats;obtain⟨vx,hvx,h1⟩:=Option.bind_eq_some_iff.1 h;have ha:c.args = #[x]:=by rw[<- Array.toArray_toList (xs:=c.args),hargs]
   have hat:c.argTypes = #[t]:=by rw[<- Array.toArray_toList (xs:=c.argTypes),hats]
   have hrx:=hρ x (by simp[Op.operands,Call.operands,ha]) _ hvx;split at h1
   ·split at h1
    ·rename_i hsort;obtain⟨k,hk,h2⟩:=Option.bind_eq_some_iff.1 h1;split at h2
     ·split at h2
      ·rename_i he;subst he;cases h2;obtain⟨hv,ys,eι,e1,hown,_⟩:=UJ hrx (hs.blk _ _ (Qa.get_mem hk));obtain⟨a,cc,rfl⟩:=hown.shape;obtain⟨d,hd⟩:=XD hsort;refine⟨E,_,.inl ?_,.int _ _,hs,Grow.refl _ _,fun _ _ h=>h⟩;simp only[execOp,resolve,hcal,Sem.run_bind,Sem.run_pure,Result.andThen_ok,invoke,builtin,ha,hat,List.map_toArray,List.map_cons,List.map_nil,Builtin.len_,List.getElem?_toArray,List.getElem?_cons_zero,run_underlying hd,e1];rfl
      ·cases h2
     ·cases h2
    ·cases h1
   ·cases h1
  ·cases h
 ·rename_i t x i;obtain⟨v1,hv1,h1⟩:=Option.bind_eq_some_iff.1 h;obtain⟨v2,hv2,h2⟩:=Option.bind_eq_some_iff.1 h1;have hrx:=hρ x (by simp[Op.operands]) _ hv1;have hri:=hρ i (by simp[Op.operands]) _ hv2;split at h2
  ·rename_i id ver kk k;obtain⟨el,he,h3⟩:=Option.bind_eq_some_iff.1 h2;obtain⟨n,hn,h4⟩:=Option.bind_eq_some_iff.1 h3;obtain⟨bk,hk,h5⟩:=Option.bind_eq_some_iff.1 h4;split at h5
   ·rename_i t' s' es ver' wr;split at h5
    ·rename_i hc;obtain⟨rfl,rfl,hk0,hklt⟩:=hc;cases h5;obtain⟨hv,ys,eι,e1,hown,hr,hes,h0,hI⟩:=UJ hrx (hs.blk _ _ (Qa.get_mem hk));rcases hown.2 with⟨a,e2,e3⟩|⟨g,cap,cur,hc0,e2,hg,hcap,_,hsz,htk⟩
     ·omega
     ·have hi':ρ i = .int kk k:=by revert hri;generalize ρ i=y;intro hri;cases hri;rfl
      have hb:0<=k/\k<(es.length:Int):=⟨hk0,by omega⟩
      refine⟨E,.pointer (some ⟨g,0+k.toNat*s',none⟩),.inl (wrap ?_),?_,hs,Grow.refl _ _,fun _ _ h=>h⟩
      ·rw[e1,e2,hi'];simp[Instr.indexAt,asIntOf,run_underlying (Wk he),hb,QK hn,Addr.add_mid]
      ·rw[Nat.zero_add];have:=Rep.eptr (E:=E) (id:=id) (ver:=ver) (s:=s') (i:=k.toNat) (off:=0) (b:=g) eι (Nat.le_refl _) fun _=>⟨_,_,e2⟩
       simpa using this
    ·cases h5
   ·cases h5
  ·cases h2
 ·rename_i t l c;obtain⟨v1,hv1,h1⟩:=Option.bind_eq_some_iff.1 h;obtain⟨v2,hv2,h2⟩:=Option.bind_eq_some_iff.1 h1;have hrl:=hρ l (by simp[Op.operands]) _ hv1;have hrc:=hρ c (by simp[Op.operands]) _ hv2;split at h2
  ·rename_i k1 n k2 m;obtain⟨el,he,h3⟩:=Option.bind_eq_some_iff.1 h2;obtain⟨s,hsz,h4⟩:=Option.bind_eq_some_iff.1 h3;obtain⟨bb,hbb,h5⟩:=Option.bind_eq_some_iff.1 h4;obtain⟨z,hz,h6⟩:=Option.bind_eq_some_iff.1 h5;split at h6
   ·rename_i hc;obtain⟨hn0,hnm,hm63,hmb,hzn,hs0⟩:=hc;cases h6;obtain⟨cz,hzrun,hzrep,hzok,hzl⟩:=Jk hz E;obtain⟨ie,hie,hib⟩:=zV hbb;have hl:ρ l = .int k1 n:=by revert hrl;generalize ρ l=y;intro hri;cases hri;rfl
    have hcc:ρ c = .int k2 m:=by revert hrc;generalize ρ c=y;intro hri;cases hri;rfl
    have hall:∀ e∈List.replicate n.toNat z,e.cells.length=s/\e.ok:=fun e he=>by rw[(List.mem_replicate.1 he).2];exact⟨hzn,hzok⟩
    have hzr:=Vb (m:=m.toNat) hzl hzn hs0;have hmul:n.toNat*s<=m.toNat*s:=Nat.mul_le_mul_right _ (by omega);have htake:(List.replicate n.toNat z).flatMap V.cells=((List.replicate m.toNat z).flatMap V.cells).take (n.toNat*s):=by
     rw[<- Vp (fun e he=>by rw[(List.mem_replicate.1 he).2,hzn]),List.take_replicate,Nat.min_eq_left (by omega)]
    obtain⟨E',hE',hrep,hs',hg',hb'⟩:=new_vec (es:=List.replicate n.toNat z) (c:=(Array.range (m.toNat*s)).map fun k=>cz.cells[k % cz.cells.size]!) hs hj el s hs0 (cap:=m.toNat) (by simp) (by simp only[maxLen];omega)
     (by simp;omega) rfl (by rw[htake,List.length_replicate];exact hzr.take _) hall
    refine⟨E',_,.inl (wrap (cv:=.slice (some ⟨E.w.heap.size,0,none⟩) n.toNat m.toNat) ?_),by rw[List.length_replicate] at hrep;exact hrep,hs',hg',fun id hn=>hb' id (hn rfl)⟩;have hw1:IntKind.i64.wrap n=n:=wrap_i64 (by omega) (by omega);have hw2:IntKind.i64.wrap m=m:=wrap_i64 (by omega) (by omega);have hbm:¬ ((bb:Int)*m > 281474976710656):=by
     have:((bb*m.toNat:Nat):Int)=(bb:Int)*m:=by rw[Int.natCast_mul,Int.toNat_of_nonneg (by omega)]
     rw[<- this,Nat.mul_comm];omega
    have hask:∀ q:Nat,(askRoom q).run P E.w = .ok () E.w:=fun q=>by unfold askRoom;split<;>rfl
    rw[hl,hcc,hE'];have hzm:¬ (m.toNat*s=0)->(zeroValue el).run P E.w = .ok cz E.w:=fun _=>hzrun E.w;have hcond:¬ (((m<0∨281474976710656<(bb:Int)*m)∨n<0)∨m<n):=by omega
    simp[Instr.makeSlice,run_underlying (Wk he),asInt,asIntOf,typeInfo,hie,hib,hw1,hw2];rw[if_neg hcond];by_cases hz0:m.toNat*s=0
    ·have:m.toNat=0:=by
      rcases Nat.mul_eq_zero.1 hz0 with e|e
      ·exact e
      ·omega
     simp[this,QK hsz,newRow,Array.range_zero']
    ·simp[QK hsz,hz0,hzrun,newRow]
   ·cases h6
  ·cases h2
 ·rename_i t ps;obtain⟨vs,hvs,h1⟩:=Option.bind_eq_some_iff.1 h;obtain⟨w,hw,e⟩:=Option.map_eq_some_iff.1 h1;cases e;obtain⟨hp,hr⟩:=qz (ρ:=ρ) hvs fun p hp=>hρ p.2 (by simp[Op.operands];exact⟨p.1,by simpa using hp⟩);obtain⟨cv,h2,h3⟩:=Qdw hw hp hr;refine⟨E,cv,.inl (wrap ?_),h3,hs,Grow.refl _ _,fun _ _ h=>h⟩;rw[toArray_map] at h2;exact h2
 ·rename_i t len ps;obtain⟨vs,hvs,h1⟩:=Option.bind_eq_some_iff.1 h;obtain⟨es,hes,e⟩:=Option.map_eq_some_iff.1 h1;cases e;obtain⟨hp,hr⟩:=qz (ρ:=ρ) hvs fun p hp=>hρ p.2 (by simp[Op.operands];exact⟨p.1,by simpa using hp⟩);obtain⟨E',cv,h2,h3,h4,h5,h6⟩:=Waz hes hs hp hr;refine⟨E',cv,.inl (wrap ?_),h3,h4,h5,fun id _=>h6 id⟩;rw[toArray_map] at h2;exact h2
 ·cases h
end
end Go.Awp
