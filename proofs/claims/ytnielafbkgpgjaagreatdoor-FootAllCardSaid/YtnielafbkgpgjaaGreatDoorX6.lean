/- AWP, text 12b: pieces of slices of one's own. -/
import Derived.Test.YtnielafbkgpgjaaGreatDoorX5
import Derived.Stop.SameAnswer
set_option linter.all false
set_option maxRecDepth 100000
set_option maxHeartbeats 8000000
namespace Go.Awp
open Go
def Ye (es:List V) (p:Nat) (ys:List V):List V:=es.take p++ys++es.drop (p+ys.length)
def winV (get:Id->Option Blk):V->Option (Id × Nat × Nat)
 | .vec id ver=>(get id).bind fun|.vec _ _ es ver' _=>if ver=ver' then some (id,0,es.length) else none|_=>none
 | .vsub id ver s lo len=>(get id).bind fun|.vec _ s' es ver' _=>if ver=ver'/\s=s'/\lo+len<=es.length then some (id,lo,len) else none|_=>none
 | _=>none
def Xc (P:Program) (lk:Operand->Option V) (get:Id->Option Blk):Op->Option (V × Upd)
 | .slice t x lo hi mx=>(lk x).bind fun v=>(winV get v).bind fun (id,b,len)=>(Wt P t).bind fun el=>(Qx P el).bind fun n=>(get id).bind fun
   | .vec _ s es ver _=>(bndV 0 (lo.map lk)).bind fun l=>(bndV len (hi.map lk)).bind fun h=>
      if s=n then match mx with
       | none=>if l<=h/\b+h<=es.length then some (.vsub id ver s (b+l) (h - l),.none) else none
       | some m=>(bndV 0 (some (lk m))).bind fun m=>if hi.isSome/\l<=h/\h<=m/\b+m<=es.length then some (.any,.none) else none
      else none
   | _=>none
 | .indexAddr t x i=>(lk x).bind fun v=>(lk i).bind fun k=>match v,k with
   | .vsub id ver z lo len,.int _ k=>(winV get v).bind fun _=>(Wt P t).bind fun el=>(Qx P el).bind fun n=>
      if z=n/\0<=k/\k.toNat<len then some (.eptr id ver z (lo+k.toNat) 0,.none) else none
   | _,_=>none
 | .call c=>match c.callee,c.args.toList,c.argTypes.toList with
   | .builtin .len,[x],[t]=>(lk x).bind fun
     | .vsub id ver z lo len=>if Qo P t = .slice then (winV get (.vsub id ver z lo len)).map fun _=>(.int .i64 len,.none) else none
     | _=>none
   | .builtin .clear,[x],[t]=>(lk x).bind fun v=>(winV get v).bind fun (id,b,len)=>(Wt P t).bind fun el=>(Qx P el).bind fun n=>(QQ P el).bind fun z=>(get id).bind fun
     | .vec t' s es ver wr=>if s=n/\z.cells.length=n/\wr=true then some (.tup [],if len=0 then .none else .put id (.vec t' s (Ye es b (List.replicate len z)) ver true)) else none
     | _=>none
   | .builtin .append,[s,x],[t,tx]=>(lk s).bind fun
     | .vsub id ver z lo len=>(lk x).bind fun x=>(winV get (.vsub id ver z lo len)).bind fun _=>(Wt P t).bind fun el=>(Qx P el).bind fun n=>(srcV P get n tx x).bind fun xs=>(get id).bind fun
       | .vec t' s es _ wr=>if s=n/\z=n/\wr=true/\lo+len+xs.length<=es.length then
          some (.vsub id ver z lo (len+xs.length),if xs.length=0 then .none else .put id (.vec t' s (Ye es (lo+len) xs) ver true)) else none
       | _=>none
     | _=>none
   | .builtin .copy,[d,s],[t,ts]=>if Qo P ts = .slice then (lk d).bind fun v=>(lk s).bind fun x=>(winV get v).bind fun (id,b,len)=>(Wt P t).bind fun el=>(Qx P el).bind fun n=>(srcV P get n ts x).bind fun xs=>(get id).bind fun
     | .vec t' s es ver wr=>if s=n/\wr=true then
        some (.int .i64 (min xs.length len:Nat),if (xs.take len).length=0 then .none else .put id (.vec t' s (Ye es b (xs.take len)) ver true)) else none
     | _=>none
     else none
   | _,_,_=>none
 | _=>none
section
variable {P:Program} {lk:Operand->Option V} {σ:Qa} {j:Id} {E:Amb}
theorem Jf {es ys:List V} {p:Nat} (h:p+ys.length<=es.length):(Ye es p ys).length=es.length:=by
 unfold Ye;simp;omega
theorem QWw {es ys:List V} {p s:Nat} (hu:∀ e∈es,e.cells.length=s) (hy:∀ e∈ys,e.cells.length=s):
 (Ye es p ys).flatMap V.cells=(es.flatMap V.cells).take (p*s)++ys.flatMap V.cells++(es.flatMap V.cells).drop (p*s+ys.length*s):=by
 unfold Ye;rw[List.flatMap_append,List.flatMap_append,Vp hu,ya hu,Nat.add_mul]
structure Win (E:Amb) (t:TypeId) (s:Nat) (es:List V) (wr:Bool) (id:Id) (ver lo len:Nat) (cx:Value):Prop where
 spec:∃ a c b c0 xs,cx = .slice a len c/\E.ι id = .vec (.slice b es.length c0) ver/\lo+len<=es.length/\es.length<=c0/\c=c0 - lo/\(lo<c0->a=b.map (·.add (lo*s)))/\
  Owns E.w t s (.slice b es.length c0) es.length xs/\RepL E (es.flatMap V.cells) xs/\(∀ e∈es,e.cells.length=s/\e.ok)/\0<s/\∀ q,hblk (.slice b es.length c0)=some q->∀ o,E.I q o->wr=false/\o<es.length*s
theorem Ve {v:V} {cx:Value} {id:Id} {lo len:Nat} (h:winV σ.get v=some (id,lo,len)) (hs:Qk E σ) (hx:Rep E v cx):
 ∃ t s es ver wr,σ.get id=some (.vec t s es ver wr)/\Win E t s es wr id ver lo len cx:=by
 unfold winV at h;split at h
 ·rename_i id' ver;obtain⟨k,hk,h2⟩:=Option.bind_eq_some_iff.1 h;split at h2
  ·rename_i t s es ver' wr;split at h2
   ·rename_i e;subst e;cases h2;obtain⟨hv,xs,eι,rfl,hown,hr,hes,h0,hI⟩:=UJ hx (hs.blk _ _ (Qa.get_mem hk));obtain⟨b,c0,e⟩:=hown.shape;subst e;refine⟨t,s,es,ver,wr,hk,⟨b,c0,b,c0,xs,rfl,eι,by omega,?_,by omega,fun hc=>?_,hown,hr,hes,h0,hI⟩⟩
    ·rcases hown.2 with⟨a,e1,e2⟩|⟨g,cap,cur,_,e1,_,hc,_⟩
     ·omega
     ·cases e1;exact hc
    ·rcases hown.2 with⟨a,e1,e2⟩|⟨g,cap,cur,_,e1,_,hc,_⟩
     ·injection e1 with _ _ e5;omega
     ·cases e1;simp[Addr.add_mid]
   ·cases h2
  ·cases h2
 ·rename_i id' ver s lo' len';obtain⟨k,hk,h2⟩:=Option.bind_eq_some_iff.1 h;split at h2
  ·rename_i t s' es ver' wr;split at h2
   ·rename_i e;obtain⟨rfl,rfl,hle⟩:=e;cases h2;obtain⟨hv,xs,eι,hown,hr,hes,h0,hI⟩:=hs.blk _ _ (Qa.get_mem hk);cases hx with
    | vsub h1 h2 h3=>
      rw[eι] at h1;cases h1;obtain⟨b,n,c0,e0,q1,q2,q3,q4⟩:=h3 rfl;subst e0;have hn:n=es.length:=by
       rcases hown.2 with⟨a,e1,e2⟩|⟨g,cap,cur,_,e1,_⟩
       ·cases e1;exact e2.symm
       ·cases e1;rfl
      subst hn;exact⟨t,s,es,ver,wr,hk,⟨_,_,b,c0,xs,rfl,eι,hle,q2,q3,q4,hown,hr,hes,h0,hI⟩⟩
   ·cases h2
  ·cases h2
 ·cases h
theorem jo {id:Id} {t:TypeId} {s:Nat} {es ys:List V} {ver:Nat} {b:Option Addr} {c0 p:Nat} {xs news:List Value} (hst:Qk E σ) (hm:(id,.vec t s es ver true)∈σ) (eι:E.ι id = .vec (.slice b es.length c0) ver)
 (hown:Owns E.w t s (.slice b es.length c0) es.length xs) (hr:RepL E (es.flatMap V.cells) xs) (hes:∀ e∈es,e.cells.length=s/\e.ok) (h0:0<s) (hI:∀ q,hblk (.slice b es.length c0)=some q->∀ o,E.I q o->true=false/\o<es.length*s)
 (hp:p+ys.length<=es.length) (hy:0<ys.length) (hn:RepL E (ys.flatMap V.cells) news) (hys:∀ e∈ys,e.cells.length=s/\e.ok):
 ∃ g w',b=some ⟨g,0,none⟩/\0<c0/\(storeCells (⟨g,p*s,none⟩:Addr) news).run P E.w = .ok () w'/\
  ∃ E',E'.w=w'/\E'.ι id = .vec (.slice b es.length c0) ver/\Qk E' (σ.put id (.vec t s (Ye es p ys) ver true))/\Grow E σ E' (σ.put id (.vec t s (Ye es p ys) ver true))/\∀ i,E.ι i = .unborn->E'.ι i = .unborn:=by
 have hyc:∀ e∈ys,e.cells.length=s:=fun e he=>(hys e he).1;have hec:∀ e∈es,e.cells.length=s:=fun e he=>(hes e he).1;have hnl:news.length=ys.length*s:=by rw[hn.length,Yt hyc]
 have hsc:∀ c∈ys.flatMap V.cells,c.scalar=true:=fun c hm=>by
  obtain⟨e,he,hm'⟩:=List.mem_flatMap.1 hm;exact (hys e he).2 c hm'
 rcases hown.2 with⟨a,e1,e2⟩|⟨g,cap,cur,hc0,e1,hg,hcap,hmax,hcs,htk⟩
 ·omega
 ·cases e1;have hmul:(p+ys.length)*s<=es.length*s:=Nat.mul_le_mul_right _ hp;have hmul2:es.length*s<=c0*s:=Nat.mul_le_mul_right _ hcap;rw[Nat.add_mul] at hmul;have hst':=run_storeCells_at (P:=P) g (p*s) t news 0 cur E.w hg (by simp only[Nat.add_zero];rw[hcs];omega) (hn.scalars hsc);simp only[Nat.add_zero] at hst';have hgr:=setRow_heap E.w g cur (cur.toList.take (p*s)++news++cur.toList.drop (p*s+news.length)).toArray t (0,0) hg;have hnoI:∀ o,¬ E.I g o:=fun o hi=>by
   have:=(hI g (by simp[hblk];omega) o hi).1;cases this
  have key:=Vd hst hm (.slice (some ⟨g,0,none⟩) es.length c0) ver (E.w.setRow g (cur.toList.take (p*s)++news++cur.toList.drop (p*s+news.length)).toArray) (k':=.vec t s (Ye es p ys) ver true)
   (by rw[eι];exact Loc.Le.refl _) rfl rfl rfl (Nat.le_of_eq (setRow_size _ _ _).symm) (fun k hk hne=>Vj _ _ _ _ fun e=>hne (by rw[eι,e];simp[Loc.block,hblk];omega))
   (fun q hq o hi=>by
     rw[eι] at hq;have:q=g:=by simp[Loc.block,hblk] at hq;exact hq.2.symm
     subst this;exact absurd hi (hnoI o))
   (fun q hq=>.inl (by rw[eι];exact hq))
  obtain⟨g1,g2,g3⟩:=key fun hle=>by
   refine⟨.slice (some ⟨g,0,none⟩) es.length c0,xs.take (p*s)++news++xs.drop (p*s+news.length),by simp,⟨?_,.inr ⟨g,c0,_,hc0,by rw[Jf hp],hgr,by rw[Jf hp];exact hcap,hmax,?_,?_⟩⟩,?_,?_,h0,?_⟩
   ·rw[Jf hp];have:=hown.1;simp only[List.length_append,List.length_take,List.length_drop];omega
   ·simp only[List.size_toArray,List.length_append,List.length_take,List.length_drop,Array.length_toList,hcs];omega
   ·rw[Jf hp];simp only;rw[<- htk];apply List.ext_getElem?;intro i;have hl:cur.toList.length=c0*s:=by simpa using hcs
    simp only[List.getElem?_take,List.getElem?_append,List.getElem?_drop,List.length_append,List.length_take]
    repeat' split
    all_goals first
     | rfl
     | omega
     | (congr 1;omega)
   ·rw[QWw hec hyc,<- hnl];exact ((((hr.take _).append hn).append (hr.drop _))).mono hle
   ·intro e he;unfold Ye at he;rcases List.mem_append.1 he with he|he
    ·rcases List.mem_append.1 he with he|he
     ·exact hes e (List.mem_of_mem_take he)
     ·exact hys e he
    ·exact hes e (List.mem_of_mem_drop he)
   ·intro q hq o hi;have:q=g:=by simp[hblk] at hq;exact hq.2.symm
    subst this;exact absurd hi (hnoI o)
  exact⟨g,_,rfl,hc0,hst',_,rfl,by simp,g1,g2,g3⟩
theorem qf {w w':World} {t tx ty e:TypeId} {d:TypeDesc} {i:TypeInfo} {a:Option Addr} {len cc n m:Nat} {x:Value} {news:List Value} (ht:P.underlying t=some (.slice e)) (htx:P.underlying tx=some d)
 (hd:(∃ e',d = .slice e')∨d = .string) (hi:P.info? e=some i) (hn:i.size=n) (hl:(Builtin.lenOf x).run P w = .ok m w) (hf:(Builtin.firstCells n m x).run P w = .ok news.toArray w) (hfit:len+m<=cc)
 (hst:∀ ad,a=some ad->(storeCells (ad.add (len*n)) news).run P w = .ok () w') (hst0:a=none->news=[]/\w' = w):
 (Builtin.append_ #[t,tx] ty #[.slice a len cc,x]).run P w = .ok (.slice a (len+m) cc) w':=by
 subst hn;cases a with
 | none=>
   obtain⟨rfl,rfl⟩:=hst0 rfl;rcases hd with⟨e',rfl⟩|rfl<;>simp[Builtin.append_,run_underlying ht,run_underlying htx,sizeOf,typeInfo,hi,hl,hf,hfit]
 | some ad=>
   have:=hst ad rfl;rcases hd with⟨e',rfl⟩|rfl<;>simp[Builtin.append_,run_underlying ht,run_underlying htx,sizeOf,typeInfo,hi,hl,hf,hfit,this]
theorem yG {w w':World} {t ty e:TypeId} {ad:Addr} {len c:Nat} {cz:Value} (ht:P.underlying t=some (.slice e)) (h0:¬ len=0) (hz:∀ w,(zeroValue e).run P w = .ok cz w)
 (hst:(storeCells ad (Builtin.zeroCells cz.cells len).toList).run P w = .ok () w'):(Builtin.clear_ #[t] ty #[.slice (some ad) len c]).run P w = .ok (.tuple #[]) w':=by
 obtain⟨m,rfl⟩:∃ m,len=m+1:=⟨len - 1,by omega⟩
 simp[Builtin.clear_,run_underlying ht,hz,hst]
theorem zC {w w':World} {t ts ty e:TypeId} {a:Option Addr} {len c m n:Nat} {x:Value} {news:List Value} (ht:P.underlying t=some (.slice e)) (hn:Qx P e=some n) (hl:(Builtin.lenOf x).run P w = .ok m w)
 (hf:(Builtin.firstCells n (min m len) x).run P w = .ok news.toArray w) (hst:∀ ad,a=some ad->(storeCells ad news).run P w = .ok () w') (hst0:a=none->w' = w):
 (Builtin.copy_ #[t,ts] ty #[.slice a len c,x]).run P w = .ok (.int .i64 (min m len:Nat)) w':=by
 have hf':(Builtin.firstCells n (m.min len) x).run P w = .ok news.toArray w:=hf;cases a with
 | none=>
   have:=hst0 rfl;subst this;simp[Builtin.copy_,run_underlying ht,QK hn,hl,hf',goInt]
 | some ad=>
   have:=hst ad rfl;simp[Builtin.copy_,run_underlying ht,QK hn,hl,hf',this,goInt]
theorem Qwz {w:World} {a:Addr}:∀ (l:List Value) (i:Nat) (acc:Array Value),(∀ j v,l[j]? = some v->(load (a.add (i+j))).run P w = .ok v w)->(loadCellsFrom a i l.length acc).run P w = .ok (acc++l.toArray) w
 | [],i,acc,_=>by simp[loadCellsFrom]
 | v::l,i,acc,h=>by
   have h0:=h 0 v rfl;rw[Nat.add_zero] at h0;have:=Qwz l (i+1) (acc.push v) fun j u hj=>by
    have:=h (j+1) u (by simpa using hj);rw[show i+(j+1)=i+1+j by omega] at this;exact this
   unfold loadCellsFrom;rw[List.length_cons,Sem.run_bind,h0];simp only[Result.andThen_ok];rw[this];simp
theorem Waw {w:World} {a:Addr} {n k:Nat} {arr:Array Value} (h:(loadCells a n).run P w = .ok arr w) (hk:k<=n):(loadCells a k).run P w = .ok (arr.toList.take k).toArray w:=by
 obtain⟨l,hl,e,hall⟩:=loadCellsFrom_ok a n 0 #[] arr w h;have:=Qwz (P:=P) (w:=w) (a:=a) (l.take k) 0 #[] fun j v hj=>by
  rw[List.getElem?_take] at hj;split at hj
  ·exact hall j v hj
  ·cases hj
 have hlen:(l.take k).length=k:=by simp;omega
 rw[hlen] at this;unfold loadCells;rw[this,e];simp
theorem Wez {w:World} {n m k:Nat} {cx:Value} {news:List Value} (hm:(Builtin.firstCells n m cx).run P w = .ok news.toArray w) (hk:k<=m) (hs:∀ s,cx≠.string s):(Builtin.firstCells n k cx).run P w = .ok (news.take (k*n)).toArray w:=by
 cases cx<;>simp only[Builtin.firstCells] at hm ⊢
 case slice a len c=>
  cases a with
  | none=>simp at hm;subst hm;simp
  | some ad=>
    have:=Waw hm (Nat.mul_le_mul_right n hk);simpa using this
 case string s=>exact absurd rfl (hs s)
 all_goals (rw[stuck] at hm;cases hm)
theorem OpOk.sub {o:Oper} {v:V} {u:Upd} (h:Xc P lk σ.get o.op=some (v,u)):OpOk P o lk σ j v (u.app σ j) u.Wf:=fun E ρ hs hj hρ=>by
 obtain⟨dst,op,type,pos,after,guard⟩:=o;simp only at h hρ;have wrap:∀ {s:Sem Value} {cv:Value} {w':World},s.run P E.w = .ok cv w'->(do Pure.pure (Next.value (<- s)):Sem Next).run P E.w = .ok (.value cv) w':=fun h=>by simp[h]
 unfold Xc at h;split at h
 ·rename_i t x lo hi mx;obtain⟨v1,hv1,h⟩:=Option.bind_eq_some_iff.1 h;obtain⟨⟨id,b,len⟩,hw,h⟩:=Option.bind_eq_some_iff.1 h;obtain⟨el,he,h⟩:=Option.bind_eq_some_iff.1 h;obtain⟨n,hn,h⟩:=Option.bind_eq_some_iff.1 h;obtain⟨bk,hk,h⟩:=Option.bind_eq_some_iff.1 h;have hlo:∀ y,lo=some y->∀ v,lk y=some v->Rep E v (ρ y):=fun y e=>hρ y (by simp[Op.operands,e]);have hhi:∀ y,hi=some y->∀ v,lk y=some v->Rep E v (ρ y):=fun y e=>hρ y (by simp[Op.operands,e]);have hmx:∀ y,mx=some y->∀ v,lk y=some v->Rep E v (ρ y):=fun y e=>hρ y (by simp[Op.operands,e]);obtain⟨t',s',es',ver',wr',hk',⟨a,c,bb,c0,xs,hcx,eι,q1,q2,q3,q4,hown,hr,hes,h0,hI⟩⟩:=Ve hw hs (hρ x (by simp[Op.operands]) _ hv1);rw[hk] at hk';cases hk';simp only at h;obtain⟨l,hl,h⟩:=Option.bind_eq_some_iff.1 h;obtain⟨hh,hhh,hF⟩:=Option.bind_eq_some_iff.1 h;clear h;split at hF
  ·rename_i hsn;subst hsn;have fin:∀ (lh m:Nat),l<=lh->lh<=m->m<=c->(Instr.sliceBounds true len c (lo.map ρ) (hi.map ρ) (mx.map ρ)).run P E.w = .ok (l,lh,m) E.w->
    (Instr.sliceAt t (ρ x) (lo.map ρ) (hi.map ρ) (mx.map ρ)).run P E.w = .ok (.slice (if m=l then a else a.map (·.add (l*s'))) (lh - l) (m - l)) E.w:=fun lh m _ _ _ hrb=>by
    simp[Instr.sliceAt,Instr.slice,hcx,run_underlying (Wk he),hrb,QK hn]
   split at hF
   ·split at hF
    ·rename_i hb;cases hF;have hrb:=Zz (P:=P) (E:=E) (lk:=lk) (ρ:=ρ) (isSlice:=true) (len:=len) (cap:=c) (mx:=none) hlo hhi (by simp) hl hhh (m:=c) (by simp[bndV]) hb.1 (by omega) (Nat.le_refl _) (by simp) E.w;refine⟨E,_,.inl (wrap (fin hh c hb.1 (by omega) (Nat.le_refl _) hrb)),.vsub eι (Nat.le_refl _) fun _=>⟨bb,es'.length,c0,rfl,by omega,q2,by omega,fun hlt=>?_⟩,hs,Grow.refl _ _,fun _ _ h=>h⟩;rw[if_neg (by omega),q4 (by omega)];rcases hown.2 with⟨a1,e2,e3⟩|⟨g,cap,cur,_,e2,_⟩
     ·injection e2 with _ _ e5;omega
     ·cases e2;simp[Addr.add_mid,Nat.add_mul]
    ·cases hF
   ·obtain⟨m,hm,hG⟩:=Option.bind_eq_some_iff.1 hF;clear hF;split at hG
    ·rename_i hb;cases hG;have hrb:=Zz (P:=P) (E:=E) (lk:=lk) (ρ:=ρ) (isSlice:=true) (len:=len) (cap:=c) (mx:=some _) hlo hhi hmx hl hhh (m:=m) (by rw[Option.map_some,zm c 0];exact hm) hb.2.1 hb.2.2.1 (by omega) (fun _=>hb.1) E.w;exact⟨E,_,.inl (wrap (fin hh m hb.2.1 hb.2.2.1 (by omega) hrb)),.any _,hs,Grow.refl _ _,fun _ _ h=>h⟩
    ·cases hG
  ·cases hF
 ·rename_i t x i;obtain⟨v1,hv1,h1⟩:=Option.bind_eq_some_iff.1 h;obtain⟨v2,hv2,h2⟩:=Option.bind_eq_some_iff.1 h1;have hrx:=hρ x (by simp[Op.operands]) _ hv1;have hri:=hρ i (by simp[Op.operands]) _ hv2;split at h2
  ·rename_i id ver z lo len kk k;obtain⟨⟨id',b',len'⟩,hw,h⟩:=Option.bind_eq_some_iff.1 h2;obtain⟨el,he,h⟩:=Option.bind_eq_some_iff.1 h;obtain⟨n,hn,h⟩:=Option.bind_eq_some_iff.1 h;obtain⟨t',s',es',ver',wr',hk',⟨a,c,bb,c0,xs,hcx,eι,q1,q2,q3,q4,hown,hr,hes,h0,hI⟩⟩:=Ve hw hs hrx;have hsame:id' = id/\b' = lo/\len' = len/\s' = z/\ver' = ver:=by
    unfold winV at hw;obtain⟨kb,hkb,hw⟩:=Option.bind_eq_some_iff.1 hw;split at hw
    ·split at hw
     ·rename_i e;cases hw;rw[hkb] at hk';cases hk';exact⟨rfl,rfl,rfl,e.2.1.symm,e.1.symm⟩
     ·cases hw
    ·cases hw
   obtain⟨rfl,rfl,rfl,rfl,rfl⟩:=hsame;split at h
   ·rename_i hc;obtain⟨rfl,hk0,hklt⟩:=hc;cases h;rcases hown.2 with⟨a,e2,e3⟩|⟨g,cap,cur,hc0,e2,hg,hcap,_,hsz,htk⟩
    ·omega
    ·cases e2;have ha:=q4 (by omega);simp only[Option.map_some,Addr.add_mid,Nat.zero_add] at ha;subst ha;have hi':ρ i = .int kk k:=by revert hri;generalize ρ i=y;intro hri;cases hri;rfl
     have hb:0<=k/\k<(len':Int):=⟨hk0,by omega⟩
     refine⟨E,.pointer (some ⟨g,b' * s' + k.toNat*s',none⟩),.inl (wrap ?_),?_,hs,Grow.refl _ _,fun _ _ h=>h⟩
     ·rw[hcx,hi'];simp[Instr.indexAt,asIntOf,run_underlying (Wk he),hb,QK hn,Addr.add_mid]
     ·have:=Rep.eptr (E:=E) (id:=id') (ver:=ver') (s:=s') (i:=b' + k.toNat) (off:=0) (b:=g) eι (Nat.le_refl _) fun _=>⟨_,_,rfl⟩
      simpa[Nat.add_mul] using this
   ·cases h
  ·cases h2
 ·rename_i c;split at h
  ·rename_i x t hcal hargs hats;obtain⟨vx,hvx,h1⟩:=Option.bind_eq_some_iff.1 h;have ha:c.args = #[x]:=by rw[<- Array.toArray_toList (xs:=c.args),hargs]
   have hat:c.argTypes = #[t]:=by rw[<- Array.toArray_toList (xs:=c.argTypes),hats]
   have hrx:=hρ x (by simp[Op.operands,Call.operands,ha]) _ hvx;split at h1
   ·rename_i id ver z lo len;split at h1
    ·rename_i hsort;obtain⟨q,hw,e⟩:=Option.map_eq_some_iff.1 h1;cases e;obtain⟨d,hd⟩:=XD hsort;obtain⟨ad,cc,hcx⟩:∃ a c,ρ x = .slice a len c:=by
      revert hrx;generalize ρ x=y;intro hrx;cases hrx;exact⟨_,_,rfl⟩
     refine⟨E,_,.inl ?_,.int _ _,hs,Grow.refl _ _,fun _ _ h=>h⟩;simp only[execOp,resolve,hcal,Sem.run_bind,Sem.run_pure,Result.andThen_ok,invoke,builtin,ha,hat,List.map_toArray,List.map_cons,List.map_nil,Builtin.len_,List.getElem?_toArray,List.getElem?_cons_zero,run_underlying hd,hcx];rfl
    ·cases h1
   ·cases h1
  ·rename_i x t hcal hargs hats;obtain⟨vx,hvx,h⟩:=Option.bind_eq_some_iff.1 h;have ha:c.args = #[x]:=by rw[<- Array.toArray_toList (xs:=c.args),hargs]
   have hat:c.argTypes = #[t]:=by rw[<- Array.toArray_toList (xs:=c.argTypes),hats]
   have hrx:=hρ x (by simp[Op.operands,Call.operands,ha]) _ hvx;obtain⟨⟨id,b,len⟩,hw,h⟩:=Option.bind_eq_some_iff.1 h;obtain⟨el,he,h⟩:=Option.bind_eq_some_iff.1 h;obtain⟨n,hn,h⟩:=Option.bind_eq_some_iff.1 h;obtain⟨z,hz,h⟩:=Option.bind_eq_some_iff.1 h;obtain⟨bk,hk,h⟩:=Option.bind_eq_some_iff.1 h;obtain⟨t',s',es',ver',wr',hk',⟨a,cc,bb,c0,xs,hcx,eι,q1,q2,q3,q4,hown,hr,hes,h0,hI⟩⟩:=Ve hw hs hrx;rw[hk] at hk';cases hk';have hF:=h;clear h;simp only at hF;split at hF
   ·rename_i hc;obtain⟨rfl,hzn,rfl⟩:=hc;cases hF;obtain⟨cz,hzrun,hzrep,hzok,hzl⟩:=Jk hz E;by_cases hl0:len=0
    ·subst hl0;refine⟨E,.tuple #[],.inl ?_,.tup .nil,hs,Grow.refl E σ,fun _ _ h=>h⟩;simp only[execOp,resolve,hcal,Sem.run_bind,Sem.run_pure,Result.andThen_ok,invoke,builtin,ha,hat,List.map_toArray,List.map_cons,List.map_nil,Builtin.clear_,List.getElem?_toArray,List.getElem?_cons_zero,run_underlying (Wk he),hcx];cases a<;>rfl
    ·have hall:∀ e∈List.replicate len z,e.cells.length=s'/\e.ok:=fun e he=>by rw[(List.mem_replicate.1 he).2];exact⟨hzn,hzok⟩
     have hzr:=Vb (E:=E) (m:=len) hzl hzn h0;obtain⟨g,w',e1,hc0,hrun,E',hE',hι',g1,g2,g3⟩:=jo (p:=b) (ys:=List.replicate len z) hs (Qa.get_mem hk) eι hown hr hes h0 hI (by simpa using q1) (by simp;omega) hzr hall;subst e1;have ha':=q4 (by omega);simp only[Option.map_some,Addr.add_mid,Nat.zero_add] at ha';subst ha';have happ:(if len=0 then Upd.none else Upd.put id (.vec t' s' (Ye es' b (List.replicate len z)) ver' true))=Upd.put id (.vec t' s' (Ye es' b (List.replicate len z)) ver' true):=if_neg hl0;rw[happ];refine⟨E',.tuple #[],.inl ?_,.tup .nil,g1,g2,fun i _ hi=>g3 i hi⟩;have hzc:(Builtin.zeroCells cz.cells len).toList=((Array.range (len*s')).map fun k=>cz.cells[k % cz.cells.size]!).toList:=by
      have hzs:cz.cells.size=s':=by rw[<- hzn];simpa using hzl.length
      unfold Builtin.zeroCells;rw[hzs]
     have:=yG (ty:=type) (Wk he) (c:=c0 - b) hl0 hzrun (hzc▸hrun);rw[q3] at hcx;simp only[execOp,resolve,hcal,Sem.run_bind,Sem.run_pure,Result.andThen_ok,invoke,builtin,ha,hat,List.map_toArray,List.map_cons,List.map_nil,hcx,this,hE']
   ·cases hF
  ·rename_i s x t tx hcal hargs hats;obtain⟨v1,hv1,h⟩:=Option.bind_eq_some_iff.1 h;have ha:c.args = #[s,x]:=by rw[<- Array.toArray_toList (xs:=c.args),hargs]
   have hat:c.argTypes = #[t,tx]:=by rw[<- Array.toArray_toList (xs:=c.argTypes),hats]
   split at h
   ·rename_i id ver z lo len;obtain⟨v2,hv2,h⟩:=Option.bind_eq_some_iff.1 h;have hrs:=hρ s (by simp[Op.operands,Call.operands,ha]) _ hv1;have hrx:=hρ x (by simp[Op.operands,Call.operands,ha]) _ hv2;obtain⟨⟨id',b',len'⟩,hw,h⟩:=Option.bind_eq_some_iff.1 h;obtain⟨el,he,h⟩:=Option.bind_eq_some_iff.1 h;obtain⟨n,hn,h⟩:=Option.bind_eq_some_iff.1 h;obtain⟨xs',hxs,h⟩:=Option.bind_eq_some_iff.1 h;obtain⟨bk,hk,h⟩:=Option.bind_eq_some_iff.1 h;obtain⟨t',s',es',ver',wr',hk',⟨a,cc,bb,c0,xs,hcx,eι,q1,q2,q3,q4,hown,hr,hes,h0,hI⟩⟩:=Ve hw hs hrs;have hsame:id' = id/\b' = lo/\len' = len/\s' = z/\ver' = ver:=by
     unfold winV at hw;obtain⟨kb,hkb,hw⟩:=Option.bind_eq_some_iff.1 hw;split at hw
     ·split at hw
      ·rename_i e;cases hw;rw[hkb] at hk';cases hk';exact⟨rfl,rfl,rfl,e.2.1.symm,e.1.symm⟩
      ·cases hw
     ·cases hw
    obtain⟨rfl,rfl,rfl,rfl,rfl⟩:=hsame;rw[hk] at hk';cases hk';have hF:=h;clear h;simp only at hF;split at hF
    ·rename_i hc;obtain⟨_,rfl,rfl,hfit⟩:=hc;cases hF;obtain⟨news,d,hsrc,hnr,hxe,htx,hd⟩:=qq hxs hs hrx;have hcap:len' + xs'.length<=cc:=by omega
     have hl:=hsrc.len;have hf:=hsrc.first E.w rfl
     have rep:∀ E':Amb,E'.ι id' = .vec (.slice bb es'.length c0) ver'->Rep E' (.vsub id' ver' s' b' (len' + xs'.length)) (.slice a (len' + xs'.length) cc):=fun E' e=>
      .vsub e (Nat.le_refl _) fun _=>⟨bb,es'.length,c0,rfl,by omega,q2,q3,q4⟩
     obtain⟨ie,hie,hies⟩:=qv hn;by_cases hl0:xs'.length=0
     ·have hxl:xs' = []:=List.eq_nil_of_length_eq_zero hl0;subst hxl;have hnn:news=[]:=List.eq_nil_of_length_eq_zero (by simpa using hsrc.size);subst hnn;refine⟨E,.slice a (len' + 0) cc,.inl ?_,rep E eι,hs,Grow.refl E σ,fun _ _ h=>h⟩;simp only[List.length_nil] at hl hf hcap;have:=qf (ty:=type) (Wk he) htx hd hie hies hl hf (a:=a) (len:=len') (cc:=cc) hcap (w':=E.w) (fun _ _=>rfl) (fun _=>⟨rfl,rfl⟩);simp only[execOp,resolve,hcal,Sem.run_bind,Sem.run_pure,Result.andThen_ok,invoke,builtin,ha,hat,List.map_toArray,List.map_cons,List.map_nil,hcx,this]
     ·obtain⟨g,w',e1,hc0,hrun,E',hE',hι',g1,g2,g3⟩:=jo (p:=b' + len') (ys:=xs') hs (Qa.get_mem hk) eι hown hr hes h0 hI hfit (by omega) hnr hxe;subst e1;have ha':=q4 (by omega);simp only[Option.map_some,Addr.add_mid,Nat.zero_add] at ha';subst ha';have happ:(if xs'.length=0 then Upd.none else Upd.put id' (.vec t' s' (Ye es' (b' + len') xs') ver' true))=Upd.put id' (.vec t' s' (Ye es' (b' + len') xs') ver' true):=if_neg hl0;rw[happ];refine⟨E',.slice (some ⟨g,b' * s',none⟩) (len' + xs'.length) cc,.inl ?_,rep E' hι',g1,g2,fun i _ hi=>g3 i hi⟩;have hadr:(⟨g,b' * s',none⟩:Addr).add (len' * s')=⟨g,(b' + len')*s',none⟩:=by rw[Addr.add_mid,Nat.add_mul]
      have:=qf (ty:=type) (Wk he) htx hd hie hies hl hf (a:=some ⟨g,b' * s',none⟩) (len:=len') (cc:=cc) hcap (w':=w') (fun ad e=>by cases e;rw[hadr];exact hrun) (fun h=>by cases h);simp only[execOp,resolve,hcal,Sem.run_bind,Sem.run_pure,Result.andThen_ok,invoke,builtin,ha,hat,List.map_toArray,List.map_cons,List.map_nil,hcx,this,hE']
    ·cases hF
   ·cases h
  ·rename_i dd s t ts hcal hargs hats;have ha:c.args = #[dd,s]:=by rw[<- Array.toArray_toList (xs:=c.args),hargs]
   have hat:c.argTypes = #[t,ts]:=by rw[<- Array.toArray_toList (xs:=c.argTypes),hats]
   have hF0:=h;clear h;split at hF0
   case isFalse=>cases hF0
   rename_i hsl;have h:=hF0;clear hF0;obtain⟨v1,hv1,h⟩:=Option.bind_eq_some_iff.1 h;obtain⟨v2,hv2,h⟩:=Option.bind_eq_some_iff.1 h;have hrs:=hρ dd (by simp[Op.operands,Call.operands,ha]) _ hv1;have hrx:=hρ s (by simp[Op.operands,Call.operands,ha]) _ hv2;obtain⟨⟨id,b,len⟩,hw,h⟩:=Option.bind_eq_some_iff.1 h;obtain⟨el,he,h⟩:=Option.bind_eq_some_iff.1 h;obtain⟨n,hn,h⟩:=Option.bind_eq_some_iff.1 h;obtain⟨xs',hxs,h⟩:=Option.bind_eq_some_iff.1 h;obtain⟨bk,hk,h⟩:=Option.bind_eq_some_iff.1 h;obtain⟨t',s',es',ver',wr',hk',⟨a,cc,bb,c0,xs,hcx,eι,q1,q2,q3,q4,hown,hr,hes,h0,hI⟩⟩:=Ve hw hs hrs;rw[hk] at hk';cases hk';have hF:=h;clear h;simp only at hF;split at hF
   ·rename_i hc;obtain⟨rfl,rfl⟩:=hc;cases hF;obtain⟨news,d,hsrc,hnr,hxe,htx,hd⟩:=qq hxs hs hrx;have hns:∀ q,ρ s≠.string q:=fun q e=>by
     rw[e] at hrx;cases hrx<;>simp[srcV,hsl] at hxs
    have hmin:min xs'.length len<=xs'.length:=Nat.min_le_left _ _;have hf:=Wez (hsrc.first E.w rfl) hmin hns;have htk:(xs'.take len).length=min xs'.length len:=by simp;omega
    have hnews:RepL E ((xs'.take len).flatMap V.cells) (news.take (min xs'.length len*s')):=by
     have:xs'.take len=xs'.take (min xs'.length len):=by rw[<- List.take_length (l:=xs'.take len),htk,List.take_take];simp
     rw[this,Vp fun e he=>(hxe e he).1];exact hnr.take _
    have hall:∀ e∈xs'.take len,e.cells.length=s'/\e.ok:=fun e he=>hxe e (List.mem_of_mem_take he);by_cases hl0:(xs'.take len).length=0
    ·rw[if_pos hl0];have h00:min xs'.length len=0:=by omega
     refine⟨E,_,.inl ?_,.int _ _,hs,Grow.refl E σ,fun _ _ h=>h⟩;have:=zC (ts:=ts) (ty:=type) (Wk he) hn hsrc.len hf (a:=a) (c:=cc) (w':=E.w) (fun ad _=>by rw[h00];simp[storeCells]) (fun _=>rfl);simp only[execOp,resolve,hcal,Sem.run_bind,Sem.run_pure,Result.andThen_ok,invoke,builtin,ha,hat,List.map_toArray,List.map_cons,List.map_nil,hcx,this]
    ·rw[if_neg hl0];obtain⟨g,w',e1,hc0,hrun,E',hE',hι',g1,g2,g3⟩:=jo (p:=b) (ys:=xs'.take len) hs (Qa.get_mem hk) eι hown hr hes h0 hI (by rw[htk];omega) (by omega) hnews hall;subst e1;have ha':=q4 (by omega);simp only[Option.map_some,Addr.add_mid,Nat.zero_add] at ha';subst ha';refine⟨E',_,.inl ?_,.int _ _,g1,g2,fun i _ hi=>g3 i hi⟩;have:=zC (ts:=ts) (ty:=type) (Wk he) hn hsrc.len hf (a:=some ⟨g,b*s',none⟩) (c:=cc) (w':=w') (fun ad e=>by cases e;exact hrun) (fun e=>by cases e);simp only[execOp,resolve,hcal,Sem.run_bind,Sem.run_pure,Result.andThen_ok,invoke,builtin,ha,hat,List.map_toArray,List.map_cons,List.map_nil,hcx,this,hE']
   ·cases hF
  ·cases h
 ·cases h
end
def litR (P:Program) (lk:Operand->Option V) (j:Id) (t len:Nat) (ps:List (Nat × Operand)):Option (V × Upd):=
 (YH lk ps).bind fun vs=>(litV P t len vs).bind fun es=>(Wt P t).bind fun el=>(Qx P el).bind fun n=>
   if 0<n/\0<len then some (.vec j 1,.new (.vec el n es 1 true)) else none
section
variable {P:Program} {lk:Operand->Option V} {σ:Qa} {j:Id} {E:Amb}
theorem litV_own {t len el n:Nat} {ps:List (Nat × V)} {es:List V} {cps:List (Nat × Value)} (h:litV P t len ps=some es) (he0:Wt P t=some el) (hn0:Qx P el=some n) (h0n:0<n) (h0l:0<len)
 (hs:Qk E σ) (hj:E.ι j = .unborn) (hp:cps.map (·.1)=ps.map (·.1)) (hr:RepL E (ps.map (·.2)) (cps.map (·.2))):
 ∃ E' cv,(Instr.buildSlice t len cps.toArray).run P E.w = .ok cv E'.w/\Rep E' (.vec j 1) cv/\Qk E' ((j,.vec el n es 1 true)::σ)/\Grow E σ E' ((j,.vec el n es 1 true)::σ)/\∀ id,id≠j->E.ι id = .unborn->E'.ι id = .unborn:=by
 unfold litV at h;obtain⟨el',he,h1⟩:=Option.bind_eq_some_iff.1 h;rw[he0] at he;cases he;obtain⟨n',hn,h2⟩:=Option.bind_eq_some_iff.1 h1;rw[hn0] at hn;cases hn;obtain⟨z,hz,h3⟩:=Option.bind_eq_some_iff.1 h2;split at h3
 ·rename_i hc;obtain⟨hm,hsmall,hzn,hall⟩:=hc;cases h3;have hlen:ps.length=len:=by have:=congrArg List.length hm;simpa using this
  obtain⟨cz,hzrun,hzrep,hzok,hzl⟩:=Jk hz E;have hu:=Wk he0;have hfa:=vk (n:=n) ps 0;have h0:¬ len*n=0:=Nat.ne_of_gt (Nat.mul_pos h0l h0n);have hzr:=Vb (m:=len) hzl hzn h0n;have hrl:((List.replicate len z).flatMap V.cells).length=len*n:=by
   rw[Yt (s:=n) fun e he=>by rw[(List.mem_replicate.1 he).2,hzn]];simp
  obtain⟨cells',hf,hcr,_,hcl⟩:=ZS (hfa _ (by rw[hm,hlen,List.range_eq_range']) hall (by rw[hrl,Nat.zero_add,hlen])) hp hr hzr
   (fun c hm=>by obtain⟨e,he,hm'⟩:=List.mem_flatMap.1 hm;rw[(List.mem_replicate.1 he).2] at hm';exact hzok c hm')
  have hrun:(Instr.buildSlice t len cps.toArray).run P E.w = .ok (.slice (some ⟨E.w.heap.size,0,none⟩) len len) (E.w.alloc (.cells cells' el)):=by
   have:¬ len*n > 2 ^ 24:=by omega
   simp[Instr.buildSlice,run_underlying hu,QK hn0,h0,hf,newRow,hzrun];omega
  have hcr':RepL E ((ps.map (·.2)).flatMap V.cells) cells'.toList:=by simpa using hcr
  have hok:∀ e∈ps.map (·.2),e.cells.length=n/\e.ok:=fun e he=>by
   obtain⟨p,hp',rfl⟩:=List.mem_map.1 he;obtain⟨i,hi⟩:=List.getElem?_of_mem he;obtain⟨cv,_,hrep⟩:=hr.get hi;exact⟨(hall p hp').2,(hrep.cells (hall p hp').1).2⟩
  have hel:(ps.map (·.2)).length=len:=by simp[hlen]
  have hsz:cells'.size=len*n:=by
   have h5:=hcr'.length;rw[Yt fun e he=>(hok e he).1,hel] at h5;simpa using h5
  have hcap:len<=maxLen:=by
   have h6:len*1<=len*n:=Nat.mul_le_mul_left _ h0n;simp only[maxLen];omega
  obtain⟨E',q1,q2,q3,q4,q5⟩:=new_vec (es:=ps.map (·.2)) (c:=cells') (cap:=len) hs hj el n h0n hsz hcap (by omega) rfl (by rw[hel,<- hsz,List.take_of_length_le (by simp)];exact hcr') hok;rw[hel] at q2;exact⟨E',_,by rw[q1];exact hrun,q2,q3,q4,q5⟩
 ·cases h3
theorem OpOk.lit {o:Oper} {t len:Nat} {ps:Array (Nat × Operand)} {v:V} {u:Upd} (ho:o.op = .buildSlice t len ps) (h:litR P lk j t len ps.toList=some (v,u)):OpOk P o lk σ j v (u.app σ j) u.Wf:=fun E ρ hs hj hρ=>by
 unfold litR at h;obtain⟨vs,hvs,h1⟩:=Option.bind_eq_some_iff.1 h;obtain⟨es,hes,h2⟩:=Option.bind_eq_some_iff.1 h1;obtain⟨el,hel,h3⟩:=Option.bind_eq_some_iff.1 h2;obtain⟨n,hn,h4⟩:=Option.bind_eq_some_iff.1 h3;split at h4
 ·rename_i hc;cases h4;obtain⟨hp,hr⟩:=qz (ρ:=ρ) hvs fun p hp=>hρ p.2 (by rw[ho];simp[Op.operands];exact⟨p.1,by simpa using hp⟩);obtain⟨E',cv,q1,q2,q3,q4,q5⟩:=litV_own hes hel hn hc.1 hc.2 hs hj hp hr;refine⟨E',cv,.inl ?_,q2,q3,q4,fun id hne=>q5 id (hne rfl)⟩;rw[toArray_map] at q1;obtain⟨dst,op,type,pos,after,guard⟩:=o;simp only at ho;subst ho;have wrap:∀ {s:Sem Value} {cv:Value} {w':World},s.run P E.w = .ok cv w'->(do Pure.pure (Next.value (<- s)):Sem Next).run P E.w = .ok (.value cv) w':=fun h=>by simp[h]
  exact wrap q1
 ·cases h4
end
end Go.Awp
