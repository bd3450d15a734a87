/- 6: a part of this claim's texts, joined: W9 WalA WalB WalC WalD WalE WalF WalG WalH WalI WalJ WalK PlainWal WalLaw WalLawB WalLawC WalLawD WalM WalN WalO. -/
import Derived.Test.YtdakncgafdnjfaaGreatPm5
import Derived.ChangeKeysEq
import Derived.Laws.StructEq
namespace Go.Wk
open Go
section
variable {P:Program}{r:Option Nat}{ops:Array Oper}{Q:Exit→Act→World→Prop}{w0:World}{M0:Nat→Prop}{ds:List Deferred}{a:Act}{w:World}{l:List Value}{bs:List Item}{fs:List (World→Prop)}
 {d:Option Nat} {ty t tx e:TypeId} {pos:String} {af:Array Edge} {rest:List Oper} {x y:Operand} {dy c sz m:Nat} {z:Value}
theorem TA (ad:Addr)(n:Nat)(olds:List Value){xv:Value}{news:List Value}{l':Nat→Nat→List Value}(S:St w0 M0 ds a w l bs fs)
  [Ev ⟨[],l⟩ x (.slice (some ad) n c)] [Ev ⟨[],l⟩ y xv] [ht:dN P t (.slice e)] [o_:TI P e z sz dy] {zc:List Value} [So:Cells z zc] [hzl:gW zc sz] [hs:yF P tx xv bs fs sz m news]
  [hp:∀ g c',cZ l d (.slice (some ⟨g,0,none⟩) (n+m) c') (l' g c')] (hl:olds.length=n*sz) (hold:∀ j u,olds[j]? = some u→w.cell? (ad.add j)=some u) (hg:c < n+m)
  (h63:n+m≤maxLen) (hb:(n+m)*dy≤140737488355328)
  (K:∀ g c' a w,St w0 M0 ds a w (l' g c') (row e sz (some ⟨g,0,none⟩) (n+m) c' (olds++news)::bs) fs→WL P r ops Q rest a w) :
  WL P r ops Q (⟨d,.call { callee:=.builtin .append,args:=#[x,y],argTypes:=#[t,tx] },ty,pos,af,none⟩::rest) a w:=by
 refine bR rfl ?_;rw[bQ rfl];obtain ⟨ii,hi,Lo,hsize,hby⟩:=o_.ex;subst hsize hby;have hsrc:=hs.src w S.wd.mem;have hr:=run_append_grow_src (P:=P) w t tx ty e ii z ht.eq hi Lo (some ad) n c olds (by
  have:=run_firstCells_some (P:=P) w.drew ii.size n ad n c olds hl (fun j u hu=>by simpa using hold j u hu);simpa using this) xv m news hsrc hg (by simp only[maxLen]at h63;omega) (growslice_fits hg hb)
 have hlen:(olds++news).length=(n+m)*ii.size:=by rw[List.length_append,hl,hsrc.newsLen,Nat.add_mul]
 have hzs:z.cells.size=ii.size:=by rw[←Array.length_toList,So.eq,hzl.eq]
 have hown:(w.drew.alloc (.cells ((olds++news).toArray++Builtin.zeroCells z.cells (grownCap w (n+m) c e - (n+m))) e)).ownsRow 0 e ii.size (.slice (some ⟨w.heap.size,0,none⟩) (n+m) (grownCap w (n+m) c e)) (n+m) (olds++news):=by
  refine ⟨hlen,.inr ⟨w.heap.size,_,_,rfl,Nat.zero_le _,heap_alloc_new w.drew _,grownCap_ge _ _ _ _,grownCap_le_maxLen w (n+m) c e h63,?_,?_⟩⟩;have:=grownCap_ge w (n+m) c e;rw[Array.size_append,size_zeroCells,hzs,List.size_toArray,hlen,←Nat.add_mul]
  congr 1;omega
  rw[←hlen,Array.toList_append];exact List.take_left
 have iR:aJ (fun _=>False) w (w.drew.alloc (.cells ((olds++news).toArray++Builtin.zeroCells z.cells (grownCap w (n+m) c e - (n+m))) e)):=(aJ.drawn _ w _).trans (aJ.alloc _ w.drew _)
 generalize w.drew.alloc (.cells ((olds++news).toArray++Builtin.zeroCells z.cells (grownCap w (n+m) c e - (n+m))) e)=w' at hr hown iR
 generalize grownCap w (n+m) c e=c' at hr hown
 have e1:(cu a.eval (.call { callee:=.builtin .append,args:=#[x,y],argTypes:=#[t,tx] }) ty).run P w=.ok (.value (.slice (some ⟨w.heap.size,0,none⟩) (n+m) c')) w':=by
  simp[cu,execOp,resolve,invoke,builtin,S.fr.ev (x:=x) (v:=.slice (some ad) n c),S.fr.ev (x:=y) (v:=xv),hr]
 simp only[e1,Oper.uponIn];have:=hp w.heap.size c';have S':=S.put (d:=d) (v:=.slice (some ⟨w.heap.size,0,none⟩) (n+m) c');exact K w.heap.size c' _ w' ⟨S'.slots,S'.defers,S'.wd.HG iR hown (fun ad h=>by cases h;exact Nat.le_refl _)⟩
theorem YG (b n m:Nat){T:TypeId}{cs:List Value}(ys:List UInt8){q:Option Addr}{cd cy:Nat}{bs':List Item}{l':List Value}(S:St w0 M0 ds a w l bs fs)[Ev ⟨[],l⟩ x (.slice (some ⟨b,0,none⟩) n cd)][Ev ⟨[],l⟩ y (.slice q m cy)][ht:dN P t (.slice e)][o_:TI P e z 1 dy][e9 bs b T cs]
  [k4:dD bs (box b T cs) (box b T ((aa ys).take n++cs.drop m)) bs'] [hp:cZ l d (.int .i64 ((min m n:Nat):Int)) l'] (hq:iE q (aa ys) w) (hy:ys.length=m) (hc:cs.length=n) (K:∀ a w,St w0 M0 ds a w l' bs' fs→WL P r ops Q rest a w) :
  WL P r ops Q (⟨d,.call { callee:=.builtin .copy,args:=#[x,y],argTypes:=#[t,tx] },ty,pos,af,none⟩::rest) a w:=by
 refine bR rfl ?_;rw[bQ rfl];have hb:=S.box b;have S':=S.put (d:=d) (v:=.int .i64 ((min m n:Nat):Int)) (l':=l');have hel:(aa ys).length=m:=by rw[aU,hy];exact Nat.mul_one _
 have xD:((aa ys).take (min m n)).length=min m n:=by rw[List.length_take,hel];omega
 have pU:(Builtin.firstCells 1 (min m n) (.slice q m cy)).run P w=.ok ((aa ys).take (min m n)).toArray w:=by
  cases hqq:q with
  | none=>
   have h1:=hq.1 hqq;have h2:m=0:=by rw[←hel,h1];rfl
   subst h2;rw[h1,Nat.zero_min];exact run_firstCells_none w 1 0 0 cy
  | some ad=>
   refine run_firstCells_some w 1 (min m n) ad m cy _ (by rw[xD,Nat.mul_one]) (fun j u hj=>hq.2 ad hqq j u ?_);rw[List.getElem?_take]at hj;split at hj;exact hj;cases hj
 have hst:=run_storeCells_at (P:=P) b 0 T ((aa ys).take (min m n)) 0 cs.toArray w hb (by rw[xD];simp[hc];omega) (fun u hu=>hY ys u (List.mem_of_mem_take hu));have e0:(cs.toArray.toList.take 0++(aa ys).take (min m n)++cs.toArray.toList.drop (0+((aa ys).take (min m n)).length))=(aa ys).take n++cs.drop m:=by
  rw[xD];rcases Nat.le_total m n with h | h
  rw[Nat.min_eq_left h,List.take_of_length_le (by omega:(aa ys).length≤m),List.take_of_length_le (by omega:(aa ys).length≤n)];simp;rw[Nat.min_eq_right h];simp;omega
 simp only[Nat.zero_add]at hst e0;rw[e0]at hst;have hrun:(Builtin.copy_ #[t,tx] ty #[.slice (some ⟨b,0,none⟩) n cd,.slice q m cy]).run P w=.ok (.int .i64 ((min m n:Nat):Int)) (w.setRow b ((aa ys).take n++cs.drop m).toArray):=by
  have h1:(storeCells ⟨b,0,none⟩ ((aa ys).take (min m n))).run P w=.ok () (w.setRow b ((aa ys).take n++cs.drop m).toArray):=by simpa using hst
  have h2:Nat.min m n=min m n:=rfl;simp[Builtin.copy_,Sem.run_bind,cp,cv,Builtin.lenOf,h2,pU,h1,goInt]
 have e1:(cu a.eval (.call { callee:=.builtin .copy,args:=#[x,y],argTypes:=#[t,tx] }) ty).run P w=.ok (.value (.int .i64 ((min m n:Nat):Int))) (w.setRow b ((aa ys).take n++cs.drop m).toArray):=by
  simp[cu,execOp,resolve,invoke,builtin,S.fr.ev (x:=x) (v:=.slice (some ⟨b,0,none⟩) n cd),S.fr.ev (x:=y) (v:=.slice q m cy),hrun]
 simp only[e1,Oper.uponIn];have hh:(box b T ((aa ys).take n++cs.drop m)).holds (w.setRow b ((aa ys).take n++cs.drop m).toArray):=setRow_heap w b cs.toArray _ T _ hb;exact K _ _ (S.lg (x:=box b T cs) (y:=box b T ((aa ys).take n++cs.drop m)) S'.slots S'.defers rfl (aJ.setRow w b _ rfl) hh (fun k h=>.inl h) (cV.lt _ hh) cV.loc)
end
theorem qQ {P:Program}{ty t e:TypeId}{l:Cx}{x y:Operand}{n:Nat}{kk:IntKind}{z:Value}{dy:Nat}{ρ:Operand→Value}(vs:List Value)(k:Nat)(v:Value)[Ev l x (.agg ⟨vs⟩)][Ev l y (.int kk (k:Int))][ht:dN P t (.array n e)][o_:TI P e z 1 dy][ha:eU P e false](hv:vs[k]? = some v)(hn:vs.length=n)(h:Fr ρ l)(w:World) :
  (cu ρ (.index t x y) ty).run P w=.ok (.value v) w:=by
 have hlt:k < vs.length:=(List.getElem?_eq_some_iff.1 hv).1;have e2:(⟨vs⟩:Array Value)[k]? = some v:=by simpa using hv
 have e3:k < (⟨vs⟩:Array Value).size:=hlt;simp[cu,execOp,h.ev (x:=x) (v:=.agg ⟨vs⟩),h.ev (x:=y) (v:=.int kk (k:Int)),Instr.index,asIntOf,Sem.run_bind,cp,cv,part,ha.run];rw[if_pos (by rw[←hn];exact hlt),hv];rfl
theorem qR {P:Program}(d:Nat){e:TypeId}(he:P.underlying e=some (.int .u8))[ha:eU P e false](w:World)(x y:List UInt8):∀ is:List Nat,(∀ i∈is,i < x.length∧i < y.length)→
  (Op.eqItems (d+1) e 1 ⟨aa x⟩ ⟨aa y⟩ is).run P w=.ok (is.all fun i=>decide (x[i]? = y[i]?)) w
 | [],_=>by simp[Op.eqItems]
 | i::is,h=>by
  have h0:=h i (List.mem_cons_self ..);have ih:=qR d he w x y is (fun j hj=>h j (List.mem_cons_of_mem _ hj));have ex:∀ (z:List UInt8) (hz:i < z.length),(part e ⟨aa z⟩ (i*1)).run P w=.ok (.int .u8 (z[i].toNat:Int)) w:=fun z hz=>by
   have h1:(aa z)[i]? = some (.int .u8 (z[i].toNat:Int)):=by
    have h2:=eV z i z[i] (List.getElem?_eq_getElem hz) 0 (by decide);have h3:i*cX.sz UInt8+0=i:=Nat.mul_one i;rw[h3]at h2;rw[h2];rfl
   have h2:(⟨aa z⟩:Array Value)[i]? = some (.int .u8 (z[i].toNat:Int)):=by simpa using h1
   have h3:i < (aa z).length:=(List.getElem?_eq_some_iff.1 h1).1;simp[part,Sem.run_bind,ha.run,h2]
   done
  have eq:(Op.equalIn (d+1) e (.int .u8 (x[i].toNat:Int)) (.int .u8 (y[i].toNat:Int))).run P w=.ok ((x[i].toNat:Int) == (y[i].toNat:Int)) w:=run_equalIn_int w d e .u8 .u8 _ _ he;have hb:((x[i].toNat:Int) == (y[i].toNat:Int))=decide (x[i]? = y[i]?):=by
   rw[List.getElem?_eq_getElem h0.1,List.getElem?_eq_getElem h0.2,Bool.eq_iff_iff];simp only[beq_iff_eq,decide_eq_true_eq,Option.some.injEq];exact ⟨fun h=>UInt8.toNat.inj (Int.ofNat.inj h),fun h=>by rw[h]⟩
  simp only[Op.eqItems,Sem.run_bind,ex x h0.1,ex y h0.2,eq,Result.andThen_ok,List.all_cons,hb];cases h5:decide (x[i]? = y[i]?) with
  | false=>simp
  | true=>simp[ih]
theorem tT (u:bF):u.l.length=64:=by
 have h:=u.len;rw[aU]at h;exact (Nat.mul_one _).symm.trans h
class YH (P:Program)(t:TypeId):Prop where eq:P.eqGuardType P.depth t=false
theorem EM {P:Program}(w:World){t e:TypeId}{n dy:Nat}{z:Value}(x y:List UInt8)(hu:P.underlying t=some (.array n e))(he:P.underlying e=some (.int .u8))[ha:eU P e false][o_:TI P e z 1 dy](hx:x.length=n)(hy:y.length=n) :
  (Op.equalIn 10000 t (.agg ⟨aa x⟩) (.agg ⟨aa y⟩)).run P w=.ok (decide (x=y)) w:=by
 obtain ⟨ii,hi,hz,hs,hb⟩:=o_.ex;have hc:P.cellsOf e=1:=by simp[Program.cellsOf,hi,hs]
 rw[show (10000:Nat)=9999+1 from rfl,run_equalIn_array w 9999 _ _ hu hi,hc,qR 9998 he w x y _ (fun i hi=>by rw[List.mem_range]at hi;omega)]
 congr 1
 rw[Bool.eq_iff_iff,List.all_eq_true];simp only[List.mem_range,decide_eq_true_eq];exact ⟨fun h=>List.ext_getElem? fun i=>by
  rcases Nat.lt_or_ge i n with h1 | h1
  exact h i h1;rw[List.getElem?_eq_none (by omega),List.getElem?_eq_none (by omega)],fun h i _=>by rw[h]⟩
instance TB {P:Program}{l:Cx}{bs:List Item}{fs:List (World→Prop)}{x y:Operand}{t t' ty e:TypeId}{u v:bF}{z:Value}{dy:Nat}[Ev l x (.agg ⟨aa u.l⟩)][Ev l y (.agg ⟨aa v.l⟩)][ht:dN P t (.array 64 e)][he:dN P e (.int .u8)][eU P e false][TI P e z 1 dy][hg:YH P t] :
  dO P (.binOp .eql t x y t') ty l bs fs (.bool (decide (u.l=v.l))):=⟨fun ρ w h _=>by
 simp[cu,execOp,h.ev (x:=x) (v:=.agg ⟨aa u.l⟩),h.ev (x:=y) (v:=.agg ⟨aa v.l⟩),Sem.run_bind,run_eqGuard_agg w .eql t x y _ _ hg.eq,run_eql_struct,EM w u.l v.l ht.eq he.eq (tT u) (tT v)]⟩
instance TC {P:Program}{l:Cx}{bs:List Item}{fs:List (World→Prop)}{x y:Operand}{t t' ty e:TypeId}{u v:bF}{z:Value}{dy:Nat}[Ev l x (.agg ⟨aa u.l⟩)][Ev l y (.agg ⟨aa v.l⟩)][ht:dN P t (.array 64 e)][he:dN P e (.int .u8)][eU P e false][TI P e z 1 dy][hg:YH P t] :
  dO P (.binOp .neq t x y t') ty l bs fs (.bool (!decide (u.l=v.l))):=⟨fun ρ w h _=>by
 simp[cu,execOp,h.ev (x:=x) (v:=.agg ⟨aa u.l⟩),h.ev (x:=y) (v:=.agg ⟨aa v.l⟩),Sem.run_bind,run_eqGuard_agg w .neq t x y _ _ hg.eq,run_neq_struct,EM w u.l v.l ht.eq he.eq (tT u) (tT v)]⟩
instance nz48:NZ 48:=⟨by decide⟩
end Go.Wk
namespace Go.Proofs.YtdakncgafdnjfaaGreat
open Go.Proofs.Tryz
open Go Go.Wk
set_option synthInstance.maxSize 100000
set_option synthInstance.maxHeartbeats 400000
set_option maxRecDepth 100000
def IQ (l:List UInt8):bF:=if h:l.length=64 then ⟨l,h⟩ else zB
theorem Mj {l:List UInt8}(h:l.length=64):(IQ l).l=l:=by rw[IQ,dif_pos h]
def qS (bs:List UInt8):bF:=IQ ((th bs).drop 28++bs)
theorem EN {bs:List UInt8}(h:bs.length=60):(qS bs).l=(th bs).drop 28++bs:=Mj (by rw[List.length_append,List.length_drop,vi,h])
theorem A8 (bs:List UInt8)(p:Option Addr)(c:Nat)(w0:World)(hn:bs.length=60)(hx:Fx w0 (iE p (aa bs))) :
  aT prog 178 [.slice p 60 c] w0 (fun _=>False) fun r _=>r=iy (qS bs):=by
 have TD:eu bs 60:=⟨hn⟩;have wS:=vi bs;have hS32:eu (th bs) 32:=⟨wS⟩;have hlen:gW (aa (th bs)) 32:=⟨by rw[aU,wS];rfl⟩;have hle1:eS 28 32:=⟨by omega⟩;have hle2:eS 32 32:=⟨by omega⟩;have Tz:iC (aa (List.replicate 32 (0:UInt8))) (aa (th bs)) (aa (th bs)):=⟨by rw[aU,aU,wS];exact Nat.le_refl _,by rw[List.drop_of_length_le (by rw[aU,aU,wS];exact Nat.le_refl _),List.append_nil]⟩;refine E1 func178 rfl ntmps178 (Wd.begin (fs:=[iE p (aa bs)]) (by simpa using hx)) ?_;intro a S;refine kS (kR ?_);refine sa S ?_;intro b2 a w S;refine J5 ?_;intro a S;refine sr S (Tw bs p 60 c _ hn (by omega) ((S.fact (Φ:=iE p (aa bs)) (by simp)).less fun _ _ h=>h.elim)) ?_;rintro _ a w rfl S;refine sa S ?_;intro b3 a w S;refine Y7 ?_;intro a w S;have hb:=S.box b3;refine TA ⟨b3,28,none⟩ 4 ((aa (th bs)).drop 28) S (by rw[List.length_drop,aU,wS];rfl) (fun j u hj=>?_) (by omega) (by simp only[maxLen];omega) (by omega) ?_;rw[Addr.add_lit,cell_of_row _ b3 _ _ _ _ hb];rw[List.getElem?_drop]at hj;simpa using hj;clear S;intro g c' a w S;rw[show (aa (th bs)).drop 28=aa ((th bs).drop 28) from (kF (th bs) 28).symm,←aC,←EN hn]at S;have hrow:=S.row (some ⟨g,0,none⟩) (4+60);replace S:=S.bA (some ⟨g,0,none⟩) (qS bs).l (e:=5) (sz:=1) (n:=4+60) (c:=c') (fun _ _ _ _=>trivial);replace S:=S.add (Φ:=Il ⟨g,0,none⟩ (qS bs)) ((S.mem.fact (av (some ⟨g,0,none⟩) (qS bs).l)).imp fun _ h j v hj=>h.1.2 _ rfl j v hj)
 have YI:eS 64 (4+60):=⟨by omega⟩;refine Y6 ?_;intro a w S;refine aD S (fun _=>?_);rfl
theorem wT (n:Int)(h1:0≤n)(h2:n≤4294967295):IntKind.u32.wrap n=n:=by
 unfold IntKind.wrap;simp only[IntKind.bits,IntKind.signed];simp;omega
theorem IS (M:Nat→Prop)(w:World):ag M w (iE none (aa ([]:List UInt8))):=fun _ _=>⟨fun _=>rfl,fun _ h=>by cases h⟩
def IT:List UInt8:=[83,65,70,69,72,79,85,83,69]
def vj (au n:Int):List UInt8:=be 4 n++be 4 au++IT++List.replicate 43 0
theorem vk (au n:Int):(vj au n).length=60:=by simp[vj,bI,IT]
def bW (au n:Int):bF:=qS (vj au n)
theorem EO (au n:Int)(ht:0≤au∧au≤4294967295)(hn:0≤n∧n≤4294967295)(w0:World):aT prog 176 [.int .u32 au,.int .i64 n] w0 (fun _=>False) fun r _=>r=iy (bW au n):=by
 refine E1 func176 rfl ntmps176 (Wd.start w0) ?_;intro a S;refine kS (kR ?_);refine sa S ?_;intro b4 a w S;refine J6 ?_;intro a S;rw[wT n (by omega) (by omega)]at S;refine jU S (oH none 0 0 [] n _ rfl (by omega) hn.1 hn.2 (IS _ _)) ?_;rintro _ a w ⟨g,rfl,hg,hown⟩ hS -;have S:=hS hown (fun ad h=>by cases h;exact hg);clear hS;rw[j6]at S;refine J1 ?_;intro a S;refine jU S (oH (some ⟨g,0,none⟩) (0+4) (0+4) (be 4 n) au _ (bI _ _) (by omega) ht.1 ht.2 ((jc (S.row (some ⟨g,0,none⟩) (0+4))).aO (fun _ _ h=>h))) ?_;rintro _ a w ⟨g2,rfl,Ct,lp⟩ hS -;have S:=hS lp (fun ad h=>by cases h;exact Ct);clear hS;refine J6 ?_;intro a S;refine gA S (by simp only[maxLen];simp) (by simp) ?_;rintro p3 c3 a w - S;refine N4 p3 (0+4+4+9) (m:=43) S (by omega) (by simp only[maxLen];omega) (by omega) ?_;intro p4 c4 a w S;rw[←aC]at S;refine sr S (A8 (vj au n) p4 c4 _ (vk au n) ((jc (S.row p4 60)).aO (fun _ _ h=>h))) ?_;rintro _ a w rfl S;refine Y4 ?_;intro a w S;refine aD S (fun _=>?_);rfl
theorem Gc (n m:Nat):(aa (List.replicate n (0:UInt8))).drop m=aa (List.replicate (n - m) (0:UInt8)):=by
 have h:=kF (List.replicate n (0:UInt8)) m;rw[List.drop_replicate,show m*cX.sz UInt8=m from Nat.mul_one m]at h;exact h.symm
def bN (n:Nat):Nat:=if n=0 then 1 else (n+47) / 48
def jR (l:List UInt8):List UInt8:=l.take 48++List.replicate (48 - l.length) 0
theorem j_ (l:List UInt8):(jR l).length=48:=by simp[jR];omega
def nZ (au number:Int)(n:Nat)(left:List UInt8):List UInt8:=be 4 au++be 4 number++be 2 (n:Int)++be 2 (left.length:Int)++jR left
theorem xE (au number:Int)(n:Nat)(left:List UInt8):(nZ au number n left).length=60:=by simp[nZ,bI,j_]
def ia (au number:Int)(bs:List UInt8)(k:Nat):bF:=qS (nZ au number bs.length (bs.drop (48*k)))
def aG (au number:Int)(bs:List UInt8):List bF:=(List.range (bN bs.length)).map (ia au number bs)
theorem bB (au number:Int)(bs:List UInt8):(aG au number bs).length=bN bs.length:=by simp[aG]
def Mk (g0 g1 g2:Nat):Value:=.func (.func 177) #[] ⟨[.pointer (some ⟨g0,0,none⟩),.pointer (some ⟨g1,0,none⟩),.pointer (some ⟨g2,0,none⟩)]⟩
theorem vl (au number:Int)(p:Option Addr)(n c:Nat)(w0:World):aT prog 82 [.int .u32 au,.int .u32 number,.slice p n c] w0 (fun _=>False) fun v w'=>∃ g0 g1 g2,v=Mk g0 g1 g2∧(w0.heap.size≤g0∧w0.heap.size≤g1∧w0.heap.size≤g2)∧az g0 25 [.slice p n c] w'∧az g1 130 [.int .u32 au] w'∧az g2 130 [.int .u32 number] w':=by
 refine E1 func82 rfl ntmps82 (Wd.start w0) ?_;intro a S;refine kS (kR ?_);refine sa S ?_;intro b3 a w S;refine sa S ?_;intro b4 a w S;refine sa S ?_;intro b5 a w S;refine mJ ?_;intro a S;have h3:=(S.mS b3).elim (fun h=>h.elim) id;have h4:=(S.mS b4).elim (fun h=>h.elim) id;have h5:=(S.mS b5).elim (fun h=>h.elim) id;have e3:=S.ir b3;have e4:=S.ir b4;have e5:=S.ir b5;exact aD S (fun _=>⟨b5,b3,b4,rfl,⟨h5,h3,h4⟩,e5,e3,e4⟩)
theorem rZ (au number:Int)(ht:0≤au∧au≤4294967295)(N_:0≤number∧number≤4294967295)(g0 g1 g2:Nat)(bs:List UInt8)(p:Option Addr)(c:Nat)(hl:bs.length≤40000)(hc:bs.length≤c)(w0:World)(M:Nat→Prop)(hM:∀ k,M k→k < w0.heap.size)(f0:ag M w0 (az g0 25 [.slice p bs.length c]))(f1:ag M w0 (az g1 130 [.int .u32 au]))(f2:ag M w0 (az g2 130 [.int .u32 number]))(f3:ag M w0 (av p bs)) :
  oF prog 177 [.pointer (some ⟨g0,0,none⟩),.pointer (some ⟨g1,0,none⟩),.pointer (some ⟨g2,0,none⟩)] w0 M (fun(x:bF) vs _ _=>vs=[iy x]) (aG au number bs):=by
 intro L J Jx hy hJ;have hF:∀ Φ∈[av p bs,az g0 25 [.slice p bs.length c],az g1 130 [.int .u32 au],az g2 130 [.int .u32 number]],ag M w0 Φ:=by simp;exact ⟨f3,f0,f1,f2⟩
 have hs0:0 < bN bs.length:=by unfold bN;split <;> omega
 refine (callsIn_wide (n:=0)).2 ?_;refine E1 func177 rfl ntmps177 (Wd.fE (M:=M) (fs:=[av p bs,az g0 25 [.slice p bs.length c],az g1 130 [.int .u32 au],az g2 130 [.int .u32 number]]) hM hF) ?_;intro a S;refine J7 ?_;intro a S;refine eR (ι:=Nat × Option Addr × Nat) (fun⟨k,q,e⟩ a w=>(k < bN bs.length∧(bs.drop (48*k)).length≤e∧ag M w0 (av q (bs.drop (48*k))))∧∃ N w1,J k w1∧∃ uu:Nat→Value,St w1 (fun _=>False) [] a w ((.func (.yield L) #[] #[])::(.pointer (some ⟨g0,0,none⟩))::(.pointer (some ⟨g1,0,none⟩))::(.pointer (some ⟨g2,0,none⟩))::uu 4::(.slice q (bs.drop (48*k)).length e)::uu 6::uu 7::uu 8::uu 9::uu 10::uu 11::uu 12::uu 13::uu 14::uu 15::uu 16::uu 17::uu 18::uu 19::uu 20::uu 21::uu 22::uu 23::uu 24::uu 25::uu 26::uu 27::uu 28::uu 29::uu 30::uu 31::uu 32::uu 33::uu 34::uu 35::uu 36::uu 37::uu 38::[]) [ext N] [av q (bs.drop (48*k)),az g0 25 [.slice p bs.length c],az g1 130 [.int .u32 au],az g2 130 [.int .u32 number]]) (fun x=>bN bs.length - x.1) (0,p,c) ?_ ?_;exact ⟨⟨hs0,by simpa using hc,by simpa using f3⟩,M,w0,hJ,S.uu,by rw[show bs.drop (48*0)=bs from rfl];exact S⟩;clear S;rintro ⟨k,q,e⟩ a w ⟨⟨hk,Cr,hq⟩,N,w1,Ir,uu,S⟩;have Tp:(bs.drop (48*k)).length=bs.length - 48*k:=List.length_drop;obtain ⟨left,hleft⟩:∃ left,left=bs.drop (48*k):=⟨_,rfl⟩;rw[←hleft]at S hq Cr Tp;have Gd:left.length≤40000:=by omega
 have hF2:∀ Φ∈[av q left,az g0 25 [.slice p bs.length c],az g1 130 [.int .u32 au],az g2 130 [.int .u32 number]],ag M w0 Φ:=by simp;exact ⟨hq,f0,f1,f2⟩
 have hx:(aG au number bs)[k]? = some (qS (nZ au number bs.length left)):=by rw[aG,List.getElem?_map,List.getElem?_range hk,hleft];rfl
 refine kS (kB (kS ?_));refine bM [T9 0,T9 2,F9 1,F9 3,T9 4] [] S ?_;intro w S;(iterate 2 (refine dq S ?_;intro a S));refine dl ?_;refine jU S (oH none 0 0 [] au _ rfl (by omega) ht.1 ht.2 (IS _ _)) ?_;rintro _ a w ⟨g,rfl,hg,hown⟩ hS -;have S:=hS hown (fun ad h=>by cases h;exact hg);clear hS;rw[j6]at S;refine de S ?_;refine dl ?_;refine jU S (oH (some ⟨g,0,none⟩) (0+4) (0+4) (be 4 au) number _ (bI _ _) (by omega) N_.1 N_.2 ((jc (S.row (some ⟨g,0,none⟩) (0+4))).aO (fun _ _ h=>h))) ?_;rintro _ a w ⟨ga,rfl,hga,lp⟩ hS -;have S:=hS lp (fun ad h=>by cases h;exact hga);clear hS;refine de S ?_;refine dq S ?_;intro a S;refine dn (aQ (kS (kR ?_)));(iterate 4 (refine sq S ?_;intro a S));rw[FJ (bs.length:Int) (by omega) (by omega)]at S;refine jU S (AI (some ⟨ga,0,none⟩) (0+4+4) (0+4+4) (be 4 au++be 4 number) (bs.length:Int) _ (by simp[bI]) (by omega) (by omega) (by omega) ((jc (S.row (some ⟨ga,0,none⟩) (0+4+4))).aO (fun _ _ h=>h))) ?_;rintro _ a w ⟨gb,rfl,YB,IU⟩ hS -;have S:=hS IU (fun ad h=>by cases h;exact YB);clear hS;refine J3 ?_;intro a S;rw[FJ (left.length:Int) (by omega) (by omega)]at S;refine jU S (AI (some ⟨gb,0,none⟩) (0+4+4+2) (0+4+4+2) (be 4 au++be 4 number++be 2 (bs.length:Int)) (left.length:Int) _ (by simp[bI]) (by omega) (by omega) (by omega) ((jc (S.row (some ⟨gb,0,none⟩) (0+4+4+2))).aO (fun _ _ h=>h))) ?_;rintro _ a w ⟨gc,rfl,hgc,TE⟩ hS -
 have S:=hS TE (fun ad h=>by cases h;exact hgc);clear hS;refine J5 ?_;intro a S;refine sa S ?_;intro b7 a w S;refine J6 ?_;intro a S;refine YG b7 48 left.length left S ((S.fact (Φ:=av q left) (by simp)).now.1) rfl (by rw[aU,List.length_replicate];rfl) ?_;intro a w S;rw[show (aa left).take 48=aa (left.take 48) from lU left 48,Gc,←aC,show left.take 48++List.replicate (48 - left.length) 0=jR left from rfl]at S;have hp48:gW (aa (jR left)) 48:=⟨by rw[aU,j_];rfl⟩;refine J7 ?_;intro a S;rw[show (Value.slice (some (if (48:Nat)=0 then (⟨b7,0,none⟩:Addr) else ⟨b7,0*1,none⟩)) (48 - 0) (48 - 0))=.slice (some ⟨b7,0,none⟩) 48 48 from rfl]at S;refine gA S (by simp only[maxLen];simp) (by simp) ?_;rintro p3 c3 a w - S;rw[←aC]at S;refine sr S (A8 (nZ au number bs.length left) p3 c3 _ (xE _ _ _ _) ((jc (S.row p3 60)).aO (fun _ _ h=>h))) ?_;rintro _ a w rfl S;refine sy S (M:=M) (wI:=w0) (dz:=[av q left,az g0 25 [.slice p bs.length c],az g1 130 [.int .u32 au],az g2 130 [.int .u32 number]]) hF2 (hy _ _ _ w1 _ hx Ir S.wd.agree rfl) ?_;intro ok N' a w2 hT hX S;refine J8 ?_;intro a S;refine kC S (fun h6=>?_) (fun h6=>?_);refine kT (Ac (tG (tG (Ac ?_))));refine CQ S ⟨w2,S.wd.agree,?_⟩;cases ok with
 | false=>exact .inr (hX rfl)
 | true=>
  have h48:left.length≤48:=by have:=h6;simp at this;omega
  have e1:k+1=(aG au number bs).length:=by rw[bB];unfold bN at hk⊢;split at hk <;> split <;> omega
  rw[←e1];exact .inl (hT rfl)
 refine kK (qw (aQ ?_));obtain ⟨rfl,h48⟩:ok=true∧48 < left.length:=by
  cases ok with
  | false=>exact absurd h6 (by simp)
  | true=>exact ⟨rfl,by have:=h6;simp at this;omega⟩
 have hLa:eS 48 left.length:=⟨by omega⟩;have hLb:eS left.length e:=⟨Cr⟩;have hLc:eS 48 e:=⟨by omega⟩;refine J6 ?_;intro a S;have YJ:left.drop 48=bs.drop (48*(k+1)):=by rw[hleft,List.drop_drop];congr 1
 obtain ⟨q',hq'⟩:∃ q',q'=(if e=48 then q else q.map (·.add (48*1))):=⟨_,rfl⟩;rw[←hq']at S;have Cn:∀ w,av q left w→av q' (bs.drop (48*(k+1))) w:=fun w h=>by rw[←YJ,hq'];exact h.drop 48 Cr
 replace S:=S.add (Φ:=av q' (bs.drop (48*(k+1)))) ((S.mem.fact (av q left)).imp Cn);rw[show left.length - 48=(bs.drop (48*(k+1))).length from by rw[←YJ,List.length_drop]]at S;exact ⟨(k+1,q',e - 48),⟨⟨by unfold bN at hk⊢;split at hk <;> split <;> omega,by rw[←YJ,List.length_drop];omega,hq.imp Cn⟩,N',w2,hT rfl,S.uu,S.sub _ _⟩,by show bN bs.length - (k+1) < bN bs.length - k;omega⟩
def TF (g0 g1:Nat):Value:=.func (.func 173) #[] ⟨[.pointer (some ⟨g0,0,none⟩),.pointer (some ⟨g1,0,none⟩)]⟩
theorem IV (x:bF)(n:Nat)(w0:World):aT prog 75 [iy x,.int .i64 (n:Int)] w0 (fun _=>False) fun v w'=>∃ g0 g1,v=TF g0 g1∧(w0.heap.size≤g0∧w0.heap.size≤g1)∧az g0 3 [.int .i64 (n:Int)] w'∧az g1 129 (aa x.l) w':=by
 refine E1 func75 rfl ntmps75 (Wd.start w0) ?_;intro a S;refine kS (kR ?_);refine sa S ?_;intro b2 a w S;refine sa S ?_;intro b3 a w S;refine mJ ?_;intro a S;have h2:=(S.mS b2).elim (fun h=>h.elim) id;have h3:=(S.mS b3).elim (fun h=>h.elim) id;have e2:=S.ir b2;have e3:=S.ir b3;exact aD S (fun _=>⟨b3,b2,rfl,⟨h3,h2⟩,e3,e2⟩)
theorem EP (g0 g1:Nat)(x:bF)(n:Nat)(hn:n≤1000000)(w0:World)(M:Nat→Prop)(hM:∀ k,M k→k < w0.heap.size)(f0:ag M w0 (az g0 3 [.int .i64 (n:Int)]))(f1:ag M w0 (az g1 129 (aa x.l))) :
  oF prog 173 [.pointer (some ⟨g0,0,none⟩),.pointer (some ⟨g1,0,none⟩)] w0 M (fun(x:bF) vs _ _=>vs=[iy x]) (List.replicate n x):=by
 intro L J Jx hy hJ;have hF:∀ Φ∈[az g0 3 [.int .i64 (n:Int)],az g1 129 (aa x.l)],ag M w0 Φ:=by simp;exact ⟨f0,f1⟩
 refine (callsIn_wide (n:=0)).2 ?_;refine E1 func173 rfl ntmps173 (Wd.fE (M:=M) (fs:=[az g0 3 [.int .i64 (n:Int)],az g1 129 (aa x.l)]) hM hF) ?_;intro a S;refine J7 ?_;intro a S;refine eR (ι:=Nat) (fun k a w=>k≤n∧∃ N w1,J k w1∧∃ uu:Nat→Value,St w1 (fun _=>False) [] a w ((.func (.yield L) #[] #[])::(.pointer (some ⟨g0,0,none⟩))::(.pointer (some ⟨g1,0,none⟩))::uu 3::(.int .i64 (n:Nat))::(.int .i64 (k:Nat))::uu 6::uu 7::uu 8::uu 9::uu 10::uu 11::[]) [ext N] [az g0 3 [.int .i64 (n:Int)],az g1 129 (aa x.l)]) (fun k=>n - k) 0 ?_ ?_;exact ⟨Nat.zero_le _,M,w0,hJ,S.uu,S⟩;clear S;rintro k a w ⟨hk,N,w1,Ir,uu,S⟩;refine J6 ?_;intro a S;refine kC S (fun h1=>?_) (fun h1=>?_);refine kK (aQ (kS (kB (kS ?_))));have hkn:k < n:=by have:=of_decide_eq_true h1;omega
 have hx:(List.replicate n x)[k]? = some x:=by rw[List.getElem?_replicate,if_pos hkn]
 refine J3 ?_;intro a S;refine sy S (M:=M) (wI:=w0) (dz:=[az g0 3 [.int .i64 (n:Int)],az g1 129 (aa x.l)]) hF (hy _ _ _ w1 _ hx Ir S.wd.agree rfl) ?_;intro ok N' a w2 hT hX S;refine J3 ?_;intro a S;refine kC S (fun h2=>?_) (fun h2=>?_);refine kT (Ac (tG (tG (Ac ?_))));exact CQ S ⟨w2,S.wd.agree,.inr (hX (by simpa using h2))⟩;refine J8 ?_;intro a S;rw[w6 ((k:Int)+1)]at S;exact ⟨k+1,⟨by omega,N',w2,hT (by simpa using h2),S.uu,S⟩,by omega⟩;refine kE (fT (fT (mM ?_)));have hkn:k=n:=by have:=of_decide_eq_false h1;omega
 refine CQ S ⟨w1,S.wd.agree,.inl ?_⟩;rw[List.length_replicate,←hkn];exact Ir
def gB (s:DS)(k:Int):List bF→DS × Int
 | []=>(s,0)
 | x::xs=>if cS s k true=0 then gB (l_ s k x) (k+1) xs else (l_ s k x,cS s k true)
def bg (s:DS)(k:Int)(xs:List bF):DS × Int:=if (gB s k xs).2=0 then (oL (gB s k xs).1,cS (gB s k xs).1 0 true) else gB s k xs
theorem mo (s:DS)(k:Int)(x:bF):(l_ s k x).loose.length≤s.loose.length+1:=by
 have h:(fe s k true).loose=s.loose:=by
  unfold fe;split;rfl;split;rfl;split;rfl;split <;> (try split) <;> rfl
 unfold l_ g_;split;simp[oK,dU,h];rw[h];omega
theorem ER (G:Nat)[aF prog G](lb:List Value)(xs:List bF)(b m:Nat)(p:Option Addr)(c:Nat)(s:DS)(at_:Nat)(fs:List (World→Prop))(w0:World)(hl:s.loose.length+xs.length≤1000000)(ha:at_+xs.length≤1000000)(hd:(ay b m p c s).holds w0)(hf:∀ Φ∈fs,ag (ay b m p c s).aj w0 Φ)
  (hit:∀ (M:Nat→Prop) (w1:World),(∀ k,M k→k < w1.heap.size)→(∀ Φ∈fs,ag M w1 Φ)→oF prog G lb w1 M (fun(x:bF) vs _ _=>vs=[iy x]) xs) :
  aT prog 74 [.pointer (some ⟨b,0,none⟩),.int .i64 (at_:Int),.func (.func G) #[] ⟨lb⟩] w0 (ay b m p c s).aj fun v w'=>v=.int .i64 (bg s at_ xs).2∧∃ p' c',(ay b m p' c' (bg s at_ xs).1).holds w'∧∀ i,(ay b m p' c' (bg s at_ xs).1).aj i→(ay b m p c s).aj i∨w0.heap.size≤i:=by
 have Ag:∀ i x,xs[i]? = some x→i < xs.length:=fun i x h=>(List.getElem?_eq_some_iff.1 h).1
 refine pX func74 rfl rfl (Wd.bV (x:=ay b m p c s) (fs:=fs) hd hf) (fun a S=>?_);refine E0 ntmps74 ?_;intro S;refine kS (kR ?_);refine sa S ?_;intro b3 a w S;refine sa S ?_;intro b4 a w S;refine sa S ?_;intro b6 a w S;refine J9 ?_;intro a S;replace S:=S.iJ b3;refine qE (κ:=DS × Option Addr × Nat) (κx:=DS × Option Addr × Nat × Int) (Ds:=[]) xs
  (fun i k=>[Wk.box b6 26 [.int .i64 0],Wk.box b4 3 [.int .i64 ((at_+i:Nat):Int)],marks [],ay b m k.2.1 k.2.2 k.1])
  (fun _ _=>az b3 34 [.pointer (some ⟨b,0,none⟩)]::fs)
  (fun i k=>gB s at_ xs=gB k.1 ((at_+i:Nat):Int) (xs.drop i)∧k.1.loose.length≤s.loose.length+i)
  (fun k=>[Wk.box b6 26 [.int .i64 k.2.2.2],marks [],ay b m k.2.1 k.2.2.1 k.1])
  (fun _=>az b3 34 [.pointer (some ⟨b,0,none⟩)]::fs)
  (fun cd k=>cd=.ret∧k.2.2.2≠0∧gB s at_ xs=(k.1,k.2.2.2)) (s,p,c) S
  (fun M w1 hM hF _=>hit M w1 hM (fun Φ h=>hF Φ (by simp[h]))) ⟨⟨by simp,by simp⟩,rfl,rfl⟩ ?_ ?_ ?_ ?_
 ·clear S
  rintro L D bL M' w1 i x vs ⟨s1,p1,c1⟩ W0 w hx ⟨Ht,Gd⟩ RL Ho rfl;have hi:=Ag i x hx;simp only[]at Ht Gd;have Cn:xs.drop i=x::xs.drop (i+1):=by rw[List.drop_eq_getElem_cons hi,(List.getElem?_eq_some_iff.1 hx).2]
  rw[Cn,gB]at Ht;refine ⟨_,inferInstance,fun a S=>?_⟩;simp only[]at S;refine kR (sa S ?_);intro b7 a w S;refine Y3 ?_;intro a w S;refine uG (D:=D) (b:=bL) S ?_;intro a w S;refine J7 ?_;intro a S;refine cM (ay b m p1 c1 s1) S (AX b m p1 c1 s1 ((at_+i:Nat):Int) x _ (by omega) (S.it (ay b m p1 c1 s1))) rfl ?_;rintro _ a w ⟨rfl,p2,c2,hh,hn⟩ hS;have S:=hS (ay b m p2 c2 (l_ s1 ((at_+i:Nat):Int) x)) hh hn;clear hS;refine J9 ?_;intro a S;refine kC S (fun h4=>?_) (fun h4=>?_)
  ·refine Y9 ?_;intro a w S
   have he:cS s1 ((at_+i:Nat):Int) true≠0:=by simpa using h4
   rw[if_neg he]at Ht;replace S:=S.sub [lP L D (kW bL .busy none),Wk.box b6 26 [.int .i64 (cS s1 ((at_+i:Nat):Int) true)],marks [],ay b m p2 c2 (l_ s1 ((at_+i:Nat):Int) x)] (az b3 34 [.pointer (some ⟨b,0,none⟩)]::fs);refine LB (D:=D) (b:=bL) S fun W hW=>⟨.inl rfl,(l_ s1 ((at_+i:Nat):Int) x,p2,c2,cS s1 ((at_+i:Nat):Int) true),⟨rfl,he,Ht⟩,hW⟩
  ·refine J5 ?_;intro a S
   rw[show IntKind.i64.wrap (((at_+i:Nat):Int)+1)=((at_+(i+1):Nat):Int) from by rw[w6 _];rfl]at S;refine Y3 ?_;intro a w S;have he:cS s1 ((at_+i:Nat):Int) true=0:=by simpa using h4
   rw[if_pos he]at Ht;replace S:=S.sub [lP L D (kW bL .busy none),Wk.box b6 26 [.int .i64 0],Wk.box b4 3 [.int .i64 ((at_+(i+1):Nat):Int)],marks [],ay b m p2 c2 (l_ s1 ((at_+i:Nat):Int) x)] (az b3 34 [.pointer (some ⟨b,0,none⟩)]::fs);have:=mo s1 ((at_+i:Nat):Int) x;refine AE (D:=D) (b:=bL) S fun W hW=>⟨(l_ s1 ((at_+i:Nat):Int) x,p2,c2),⟨by rw[Ht];congr 1,by show (l_ s1 ((at_+i:Nat):Int) x).loose.length≤_;omega⟩,hW⟩
 ·clear S
  rintro D ⟨s1,p1,c1⟩ a w ⟨Ht,Gd⟩ S;simp only[List.drop_length,gB]at Ht Gd S;replace S:=S.join (Ds:=[]);refine J5 ?_;intro a S;refine cM (ay b m p1 c1 s1) S (EH b m p1 c1 s1 _ (by omega) (S.it (ay b m p1 c1 s1))) rfl ?_;rintro _ a w ⟨rfl,p2,c2,hh,hn⟩ hS;have S:=hS (ay b m p2 c2 (oL s1)) hh hn;clear hS;refine Y4 ?_;intro a w S;refine Eo S (fun w hw=>?_);have e2:bg s at_ xs=(oL s1,cS s1 0 true):=by rw[bg,Ht,if_pos rfl]
  rw[e2];exact ⟨rfl,p2,c2,hw.held (ay b m p2 c2 (oL s1)) (by simp),hw.own (ay b m p2 c2 (oL s1)) (by simp) rfl⟩
 ·rintro D ⟨s1,p1,c1,e1⟩ a w ⟨-,he,Ht⟩ S
  simp only[]at S he Ht;replace S:=S.join (Ds:=[])
  repeat (first | refine Ac ?_ | refine tG ?_)
  refine Eo S (fun w hw=>?_);have e2:bg s at_ xs=(s1,e1):=by rw[bg,Ht,if_neg he]
  rw[e2];exact ⟨rfl,p1,c1,hw.held (ay b m p1 c1 s1) (by simp),hw.own (ay b m p1 c1 s1) (by simp) rfl⟩
 ·rintro id D _ a w ⟨h,-⟩;cases h
def kO (n:Int):Int:=if n < 0∨40000 < n then 0 else (bN n.toNat:Int)
theorem ke (n:Int)(w0:World):aT prog 78 [.int .i64 n] w0 (fun _=>False) fun v _=>v=.int .i64 (kO n):=by
 refine E1 func78 rfl ntmps78 (Wd.start w0) ?_;intro a S;refine Lh ?_;intro a S;refine kC S (fun h1=>?_) (fun h1=>?_);refine J8 ?_;intro a S;have h:n < 0∨40000 < n:=by simpa using h1
 refine aD S (fun _=>?_);rw[kO,if_pos h];refine J7 ?_;intro a S;refine kC S (fun h3=>?_) (fun h3=>?_);refine J8 ?_;intro a S;have h:n=0:=by simpa using h3
 subst h;refine aD S (fun _=>?_);rfl;refine rP ?_;intro a S;have hn:¬(n < 0∨40000 < n):=by simpa using h1
 have h0:n≠0:=by simpa using h3
 refine aD S (fun _=>?_);rw[w6 (n+48),w6 (n+48 - 1),Int.tdiv_eq_ediv_of_nonneg (by omega),w6 _];rw[kO,if_neg hn,bN,if_neg (by omega)]
 congr 1;omega
def jY (s:DS)(n:Int):Bool:=decide (4≤n∧n≤1000∧2*n+2≤s.size)
theorem PN (b m:Nat)(p:Option Addr)(c k:Nat)(s:DS)(n:Int)(hn:¬(4≤n∧n≤1000))(w0:World)(hb:Fx w0 (az b 170 (bq m p k c s))):aT prog 73 [.pointer (some ⟨b,0,none⟩),.int .i64 n] w0 (fun _=>False) fun v _=>v=.bool (jY s n):=by
 refine E1 func73 rfl ntmps73 (Wd.begin (fs:=[az b 170 (bq m p k c s)]) (by simpa using hb)) ?_;intro a S;refine rP ?_;intro a S;rw[show (decide (4≤n)&&decide (n≤1000))=false from by simp;omega]at S;refine sq S ?_;intro a S;(iterate 6 (refine gF S ?_;intro a S));(iterate 2 (refine sq S ?_;intro a S));refine kN (aQ (kT ?_));refine aD S (fun _=>?_);rw[show jY s n=false from by simp[jY];omega]
theorem Ml (b m:Nat)(p:Option Addr)(c k:Nat)(s:DS)(n:Int)(hn:4≤n∧n≤1000)(w0:World)(hb:Fx w0 (az b 170 (bq m p k c s))):aT prog 73 [.pointer (some ⟨b,0,none⟩),.int .i64 n] w0 (fun _=>False) fun v _=>v=.bool (jY s n):=by
 refine E1 func73 rfl ntmps73 (Wd.begin (fs:=[az b 170 (bq m p k c s)]) (by simpa using hb)) ?_;intro a S;refine rP ?_;intro a S;rw[show (decide (4≤n)&&decide (n≤1000))=true from by simp;omega]at S;refine sq S ?_;intro a S;refine gT S ?_;refine sq S ?_;intro a S;refine gT S ?_;refine sr S (N6 b m p k c s _ ((S.fact (Φ:=az b 170 (bq m p k c s)) (by simp)).less fun _ _ h=>h.elim)) ?_;rintro _ a w rfl S;refine gT S ?_;refine sq S ?_;intro a S;refine gT S ?_;refine sq S ?_;intro a S;refine gT S ?_;refine sq S ?_;intro a S;refine gT S ?_;(iterate 3 (refine sq S ?_;intro a S));refine kN (aQ (kT ?_));refine aD S (fun _=>?_);rw[w6 (2*n),w6 (2*n+2)];rw[jY,decide_eq_decide.2 (show (4≤n∧n≤1000∧2*n+2≤s.size)↔2*n+2≤s.size from ⟨fun h=>h.2.2,fun h=>⟨hn.1,hn.2,h⟩⟩)]
theorem Oa (b m:Nat)(p:Option Addr)(c k:Nat)(s:DS)(n:Int)(w0:World)(hb:Fx w0 (az b 170 (bq m p k c s))):aT prog 73 [.pointer (some ⟨b,0,none⟩),.int .i64 n] w0 (fun _=>False) fun v _=>v=.bool (jY s n):=by
 by_cases h:4≤n∧n≤1000
 exact Ml b m p c k s n h w0 hb;exact PN b m p c k s n h w0 hb
abbrev gX (b:Nat)(n au:Int):List Value:=[.pointer (some ⟨b,0,none⟩),.int .i64 n,.int .u32 au]
def aB (n:Nat)(au:Int):Nat:=2+(au % 2).toNat*n
theorem ze (b n:Nat)(au:Int)(hn:n≤1000)(ht:0≤au∧au≤4294967295)(w0:World):aT prog 81 [.agg ⟨gX b n au⟩] w0 (fun _=>False) fun v _=>v=.int .i64 ((aB n au:Nat):Int):=by
 refine E1 func81 rfl ntmps81 (Wd.start w0) ?_;intro a S;refine kS (kR ?_);refine sa S ?_;intro b1 a w S;refine D8 ?_;intro a S;refine aD S (fun _=>?_);have h0:au.tmod 2=au % 2:=Int.tmod_eq_emod_of_nonneg ht.1;rw[h0];rcases (show au % 2=0∨au % 2=1 by omega) with h | h
 rw[aB,h];simp[Ar];rw[aB,h,show IntKind.i64.wrap 1=1 from rfl,Int.one_mul,w6 (n:Int),w6 _];simp
def mL (au:Int):Int:=IntKind.u32.wrap (au+1)
theorem PO (b n:Nat)(au:Int)(w0:World):aT prog 80 [.agg ⟨gX b n au⟩] w0 (fun _=>False) fun v _=>v=.agg ⟨gX b n (mL au)⟩:=by
 refine E1 func80 rfl ntmps80 (Wd.start w0) ?_;intro a S;refine kS (kR ?_);refine sa S ?_;intro b1 a w S;refine sa S ?_;intro b2 a w S;refine WQ ?_;intro a w S;refine aD S (fun _=>?_);rfl
theorem IW (g0 b m n:Nat)(p:Option Addr)(c:Nat)(s:DS)(au:Int)(w0:World)(hn:n≤1000)(ht:0≤au∧au≤4294967295)(hl:s.loose.length≤999000)(hd:(ay b m p c s).holds w0)(f0:ag (ay b m p c s).aj w0 (az g0 132 (gX b n au))) :
  aT prog 175 [.pointer (some ⟨g0,0,none⟩)] w0 (ay b m p c s).aj fun v w'=>v=.int .i64 (bg s ((au % 2).toNat:Nat) [bW au n]).2∧∃ p' c',(ay b m p' c' (bg s ((au % 2).toNat:Nat) [bW au n]).1).holds w'∧∀ i,(ay b m p' c' (bg s ((au % 2).toNat:Nat) [bW au n]).1).aj i→(ay b m p c s).aj i∨w0.heap.size≤i:=by
 refine E1 func175 rfl ntmps175 (Wd.bV (x:=ay b m p c s) (fs:=[az g0 132 (gX b n au)]) hd (by intro Φ hΦ;obtain rfl:=List.mem_singleton.1 hΦ;exact f0)) ?_;intro a S;refine J6 ?_;intro a S;refine eY [T9 0,T9 1,T9 2,T9 3,T9 4,T9 5,T9 6,T9 7,T9 8,T9 9,F9 10,F9 11,F9 12,T9 13] [] S ?_;intro w S;refine J6 ?_;intro a S;rw[show IntKind.i64.wrap (au.tmod 2)=((au % 2).toNat:Int) from by rw[Int.tmod_eq_emod_of_nonneg ht.1,w6 _];omega]at S;(iterate 4 (refine dq S ?_;intro a S));refine dl ?_;refine sr S (EO au n ht (by omega) _) ?_;rintro _ a w rfl S;refine de S ?_;refine dl ?_;have hlt:=a_ S;refine sr S (IV (bW au n) 1 _) ?_;rintro _ a w ⟨h0,h1,rfl,⟨n0,n1⟩,e0,e1⟩ S;replace S:=S.add (Φ:=az h0 3 [.int .i64 ((1:Nat):Int)]) (az.aO e0 (fun hm=>by have:=hlt _ hm;omega));replace S:=S.add (Φ:=az h1 129 (aa (bW au n).l)) (az.aO e1 (fun hm=>by have:=hlt _ hm;omega));refine de S ?_;refine dl ?_;refine cM (ay b m p c s) S (ER 173 [.pointer (some ⟨h0,0,none⟩),.pointer (some ⟨h1,0,none⟩)] [bW au n] b m p c s (au % 2).toNat [az h1 129 (aa (bW au n).l),az h0 3 [.int .i64 ((1:Nat):Int)]] _ (by simp;omega) (by simp;omega) (S.it (ay b m p c s)) (fun Φ hΦ=>S.bU (ay b m p c s) (S.wd.facts Φ (List.mem_append_left _ hΦ))) (fun M w1 hM hF=>EP h0 h1 (bW au n) 1 (by omega) w1 M hM (hF _ (by simp)) (hF _ (by simp)))) rfl ?_;rintro _ a w ⟨rfl,p2,c2,hh,hn2⟩ hS
 have S:=hS (ay b m p2 c2 (bg s ((au % 2).toNat:Nat) [bW au n]).1) hh hn2;clear hS;refine de S ?_;refine dq S ?_;intro a S;refine dn (aQ (kT ?_));have h1:=S.bH (ay b m p2 c2 (bg s ((au % 2).toNat:Nat) [bW au n]).1) rfl;refine aD S (fun _=>⟨rfl,p2,c2,hh,h1⟩)
theorem IX (g0 g1 b m n:Nat)(p:Option Addr)(c:Nat)(s:DS)(au:Int)(bs:List UInt8)(q:Option Addr)(e:Nat)(w0:World)(hn:n≤1000)(ht:0≤au∧au≤4294967295)(Mm:bs.length≤40000)(Cr:bs.length≤e)(hl:s.loose.length≤998000)(hd:(ay b m p c s).holds w0)(f0:ag (ay b m p c s).aj w0 (az g0 132 (gX b n au)))(f1:ag (ay b m p c s).aj w0 (az g1 25 [.slice q bs.length e]))(f2:ag (ay b m p c s).aj w0 (av q bs)) :
  aT prog 174 [.pointer (some ⟨g0,0,none⟩),.pointer (some ⟨g1,0,none⟩)] w0 (ay b m p c s).aj fun v w'=>v=.int .i64 (bg s (aB n au:Nat) (aG au 0 bs)).2∧∃ p' c',(ay b m p' c' (bg s (aB n au:Nat) (aG au 0 bs)).1).holds w'∧∀ i,(ay b m p' c' (bg s (aB n au:Nat) (aG au 0 bs)).1).aj i→(ay b m p c s).aj i∨w0.heap.size≤i:=by
 have Gd:(aG au 0 bs).length≤840:=by rw[bB];unfold bN;split <;> omega
 have hfr:aB n au≤1002:=by
  unfold aB;rcases (show (au % 2).toNat=0∨(au % 2).toNat=1 by omega) with h | h <;> rw[h] <;> omega
 refine E1 func174 rfl ntmps174 (Wd.bV (x:=ay b m p c s) (fs:=[az g0 132 (gX b n au),az g1 25 [.slice q bs.length e],av q bs]) hd (by simp;exact ⟨f0,f1,f2⟩)) ?_;intro a S;refine J6 ?_;intro a S;refine eY [T9 0,T9 1,T9 2,T9 4,T9 5,T9 6,F9 3,F9 7,F9 8,T9 9] [] S ?_;intro w S;(iterate 6 (refine dq S ?_;intro a S));refine dl ?_;refine sr S (ze b n au hn ht _) ?_;rintro _ a w rfl S;refine de S ?_;refine dl ?_;have hlt:=a_ S;refine sr S (vl au 0 q bs.length e _) ?_;rintro _ a w ⟨h0,h1,h2,rfl,⟨n0,n1,n2⟩,e0,e1,e2⟩ S;replace S:=S.add (Φ:=az h0 25 [.slice q bs.length e]) (az.aO e0 (fun hm=>by have:=hlt _ hm;omega));replace S:=S.add (Φ:=az h1 130 [.int .u32 au]) (az.aO e1 (fun hm=>by have:=hlt _ hm;omega));replace S:=S.add (Φ:=az h2 130 [.int .u32 0]) (az.aO e2 (fun hm=>by have:=hlt _ hm;omega));refine de S ?_;refine dl ?_;refine cM (ay b m p c s) S (ER 177 [.pointer (some ⟨h0,0,none⟩),.pointer (some ⟨h1,0,none⟩),.pointer (some ⟨h2,0,none⟩)] (aG au 0 bs) b m p c s (aB n au) [az h2 130 [.int .u32 0],az h1 130 [.int .u32 au],az h0 25 [.slice q bs.length e],az g0 132 (gX b n au),az g1 25 [.slice q bs.length e],av q bs] _ (by omega) (by omega) (S.it (ay b m p c s)) (fun Φ hΦ=>S.bU (ay b m p c s) (S.wd.facts Φ hΦ)) (fun M w1 hM hF=>rZ au 0 ht (by omega) h0 h1 h2 bs q e Mm Cr w1 M hM (hF _ (by simp)) (hF _ (by simp)) (hF _ (by simp)) (hF _ (by simp)))) rfl ?_;rintro _ a w ⟨rfl,p3,c3,hh,hn2⟩ hS
 have S:=hS (ay b m p3 c3 (bg s (aB n au:Nat) (aG au 0 bs)).1) hh hn2;clear hS;refine de S ?_;refine dq S ?_;intro a S;refine dn (aQ (kT ?_));have h1:=S.bH (ay b m p3 c3 (bg s (aB n au:Nat) (aG au 0 bs)).1) rfl;have hh:=S.it (ay b m p3 c3 (bg s (aB n au:Nat) (aG au 0 bs)).1);refine aD S (fun _=>⟨rfl,p3,c3,hh,h1⟩)
theorem qe (s:DS)(k:Int)(b:Bool):(fe s k b).loose=s.loose:=by
 unfold fe;split;rfl;split;rfl;split;rfl;split <;> (try split) <;> rfl
theorem xF (s:DS):(oL s).loose.length≤s.loose.length:=by
 unfold oL g_;split;simp[oK,gy];rw[qe];exact Nat.le_refl _
theorem C_ (xs:List bF):∀ (s:DS) (k:Int),(gB s k xs).1.loose.length≤s.loose.length+xs.length:=by
 induction xs with
 | nil=>intro s k;exact Nat.le_refl _
 | cons x xs ih=>
  intro s k;have h1:=mo s k x;have h2:=ih (l_ s k x) (k+1);rw[gB];split
  ·rw[jb];omega
  ·rw[jb];show (l_ s k x).loose.length≤_;omega
theorem iu (s:DS)(k:Int)(xs:List bF):(bg s k xs).1.loose.length≤s.loose.length+xs.length:=by
 have h1:=C_ xs s k;have h2:=xF (gB s k xs).1;unfold bg;split
 show (oL (gB s k xs).1).loose.length≤_;omega
 exact h1
def eI (n:Nat)(au:Int)(bs:List UInt8)(i:Nat)(s:DS):DS × Int:=if i=0 then bg s (aB n au:Nat) (aG au 0 bs) else bg s ((au % 2).toNat:Nat) [bW au n]
def ES (n:Nat)(au:Int)(bs:List UInt8):Nat→DS→DS × Int
 | 0,s=>if (eI n au bs 0 s).2=0 then eI n au bs 1 (eI n au bs 0 s).1 else eI n au bs 0 s
 | 1,s=>eI n au bs 1 s
 | _,s=>(s,0)
def eT (n:Nat)(au:Int)(bs:List UInt8)(s:DS):DS × Int:=ES n au bs 0 s
theorem Da (n:Nat)(au:Int)(bs:List UInt8)(i:Nat)(hi:i < 2)(s:DS):ES n au bs i s=if (eI n au bs i s).2=0 then ES n au bs (i+1) (eI n au bs i s).1 else eI n au bs i s:=by
 rcases (show i=0∨i=1 by omega) with rfl | rfl
 rfl
 show eI n au bs 1 s=if (eI n au bs 1 s).2=0 then ((eI n au bs 1 s).1,0) else eI n au bs 1 s
 split
 rename_i h;rw[←h]
 rfl
def kP (i:Nat):Nat:=if i=0 then 174 else 175
def mV (g0 g1 i:Nat):List Value:=if i=0 then [.pointer (some ⟨g0,0,none⟩),.pointer (some ⟨g1,0,none⟩)] else [.pointer (some ⟨g0,0,none⟩)]
instance VZ {i:Nat} : aF prog (kP i):=by
 unfold kP;split <;> infer_instance
theorem Mn (g0 g1 b m n:Nat)(p:Option Addr)(c:Nat)(s:DS)(au:Int)(bs:List UInt8)(q:Option Addr)(e i:Nat)(w0:World)(hn:n≤1000)(ht:0≤au∧au≤4294967295)(Mm:bs.length≤40000)(Cr:bs.length≤e)(hl:s.loose.length≤998000)(hd:(ay b m p c s).holds w0)(f0:ag (ay b m p c s).aj w0 (az g0 132 (gX b n au)))(f1:ag (ay b m p c s).aj w0 (az g1 25 [.slice q bs.length e]))(f2:ag (ay b m p c s).aj w0 (av q bs)) :
  aT prog (kP i) (mV g0 g1 i) w0 (ay b m p c s).aj fun v w'=>v=.int .i64 (eI n au bs i s).2∧∃ p' c',(ay b m p' c' (eI n au bs i s).1).holds w'∧∀ k,(ay b m p' c' (eI n au bs i s).1).aj k→(ay b m p c s).aj k∨w0.heap.size≤k:=by
 unfold kP mV eI;split;exact IX g0 g1 b m n p c s au bs q e w0 hn ht Mm Cr hl hd f0 f1 f2;exact IW g0 b m n p c s au w0 hn ht (by omega) hd f0
theorem ET (b m n:Nat)(p:Option Addr)(c:Nat)(s:DS)(au:Int)(bs:List UInt8)(q:Option Addr)(e:Nat)(w0:World)(hn:n≤1000)(ht:0≤au∧au≤4294967295)(Mm:bs.length≤40000)(Cr:bs.length≤e)(hl:s.loose.length≤990000)(hd:(ay b m p c s).holds w0)(f2:ag (ay b m p c s).aj w0 (av q bs)) :
  aT prog 76 [.agg ⟨gX b n au⟩,.slice q bs.length e] w0 (ay b m p c s).aj fun v w'=>v=.int .i64 (eT n au bs s).2∧∃ p' c',(ay b m p' c' (eT n au bs s).1).holds w'∧∀ k,(ay b m p' c' (eT n au bs s).1).aj k→(ay b m p c s).aj k∨w0.heap.size≤k:=by
 have Gd:(aG au 0 bs).length≤840:=by rw[bB];unfold bN;split <;> omega
 have hst:∀ i s,(eI n au bs i s).1.loose.length≤s.loose.length+840:=fun i s=>by
  unfold eI;split;have:=iu s (aB n au:Nat) (aG au 0 bs);omega;have:=iu s ((au % 2).toNat:Nat) [bW au n];simp only[jb,FG]at this;omega
 refine E1 func76 rfl ntmps76 (Wd.bV (x:=ay b m p c s) (fs:=[av q bs]) hd (by intro Φ hΦ;obtain rfl:=List.mem_singleton.1 hΦ;exact f2)) ?_;intro a S;refine kS (kR ?_);refine sa S ?_;intro b2 a w S;refine sa S ?_;intro b3 a w S;refine J8 ?_;intro a S;refine sa S ?_;intro b5 a w S;refine yA ?_;intro a w S;replace S:=S.iJ b3;replace S:=S.iJ b2;refine dI S (fun(i:Nat) (s':DS) (p':Option Addr) (c':Nat) uu=>[(4,uu 4),(2,uu 7),(0,uu 8),(4,.int .i64 (i:Nat)),(0,uu 14),(0,uu 15),(0,uu 16),(0,uu 17),(0,uu 18),(0,uu 19),(0,uu 20),(0,uu 21)]) (fun(i:Nat) (s':DS) (p':Option Addr) (c':Nat)=>[Wk.box b5 252 [.func (.func (kP 0)) #[] ⟨mV b2 b3 0⟩,.func (.func (kP 1)) #[] ⟨mV b2 b3 1⟩],ay b m p' c' s']) (fun(i:Nat) (s':DS) (p':Option Addr) (c':Nat)=>[az b2 132 (gX b n au),az b3 25 [.slice q bs.length e],av q bs]) (fun(i:Nat) (s':DS) (p':Option Addr) (c':Nat)=>i≤2∧eT n au bs s=ES n au bs i s'∧s'.loose.length≤990000+840*i) (fun(i:Nat) (s':DS) (p':Option Addr) (c':Nat)=>2 - i) (0) (s) (p) (c) ?_ S.uu ?_ ?_;exact ⟨by omega,rfl,by omega⟩
 first | exact S | exact S.sub _ _
 clear S;rintro i s' p' c' uu a w ⟨hi,jC,wS⟩ S;refine J6 ?_;intro a S;refine kC S (fun h3=>?_) (fun h3=>?_);refine kK (aQ (kS (kB (kS ?_))));have hi2:i < 2:=by have:=of_decide_eq_true h3;omega
 rw[Da n au bs i hi2]at jC;refine kR ?_;refine sv (.func (.func (kP i)) #[] ⟨mV b2 b3 i⟩) S (fun hf=>?_) ?_;rcases (show i=0∨i=1 by omega) with rfl | rfl
 exact qQ [.func (.func (kP 0)) #[] ⟨mV b2 b3 0⟩,.func (.func (kP 1)) #[] ⟨mV b2 b3 1⟩] 0 _ rfl rfl hf _;exact qQ [.func (.func (kP 0)) #[] ⟨mV b2 b3 0⟩,.func (.func (kP 1)) #[] ⟨mV b2 b3 1⟩] 1 _ rfl rfl hf _;clear S;intro a S;refine J6 ?_;intro a S;have Au:=fun Φ hΦ=>S.bU (ay b m p' c' s') (S.wd.facts Φ hΦ)
 refine cM (ay b m p' c' s') S (Mn b2 b3 b m n p' c' s' au bs q e i _ hn ht Mm Cr (by omega) (S.it (ay b m p' c' s')) (Au _ (by simp)) (Au _ (by simp)) (Au _ (by simp))) rfl ?_;clear S Au;rintro _ a w ⟨rfl,p2,c2,hh,hn2⟩ hS;have S:=hS (ay b m p2 c2 (eI n au bs i s').1) hh hn2;clear hS;refine J9 ?_;intro a S;refine kC S (fun h6=>?_) (fun h6=>?_);refine jq ?_;intro a S;have he:(eI n au bs i s').2≠0:=by simpa using h6
 rw[if_neg he]at jC;have h1:=S.bH (ay b m p2 c2 (eI n au bs i s').1) rfl;refine aD S (fun _=>?_);rw[jC];exact ⟨rfl,p2,c2,hh,h1⟩;refine J8 ?_;intro a S;rw[show IntKind.i64.wrap ((i:Int)+1)=((i+1:Nat):Int) from by rw[w6 _];rfl]at S;have he:(eI n au bs i s').2=0:=by simpa using h6
 rw[if_pos he]at jC;have:=hst i s';exact ⟨i+1,(eI n au bs i s').1,p2,c2,S.uu,⟨by omega,jC,by omega⟩,S.sub _ _,by omega⟩;refine gM ?_;intro a S;have hi2:i=2:=by have:=of_decide_eq_false h3;omega
 subst hi2;have h1:=S.bH (ay b m p' c' s') rfl;have hh:=S.it (ay b m p' c' s');refine aD S (fun _=>?_);rw[jC];exact ⟨rfl,p',c',hh,h1⟩
structure jK where
 p:Option Addr
 c:Nat
 bs:List UInt8
abbrev cBy (x:jK):List Value:=[.slice x.p x.bs.length x.c]
instance TG:cX jK:=⟨1,cBy,fun _=>rfl,fun x u hu=>by obtain rfl:=List.mem_singleton.1 hu;rfl⟩
instance layBy:dW jK:={ TG with
 dflt:=⟨none,0,[]⟩
 ny:=fun _ _=>True
 mono:=fun _ _ _ _ _=>trivial }
instance:Ai jK 1:=⟨rfl,by decide⟩
instance {x:jK} : gx x [.slice x.p x.bs.length x.c]:=⟨rfl⟩
def dr (said:List jK):Wk.Item where
 aj:=fun k=>∃ x∈said,∃ ad,x.p=some ad∧ad.block=k
 holds:=fun w=>∀ x∈said,(∀ ad,x.p=some ad→ad.block < w.heap.size)∧av x.p x.bs w
theorem zf {w1 w2:World}{p:Option Addr}{bs:List UInt8}(hp:∀ ad,p=some ad→w2.heap[ad.block]? = w1.heap[ad.block]?)(h:av p bs w1):av p bs w2:=
 ⟨⟨h.1.1,fun ad ha j u hj=>by
  have h1:=h.1.2 ad ha j u hj;have h2:(ad.add j).block=ad.block:=by unfold Addr.add;split <;> rfl
  unfold World.cell? at h1⊢;rw[h2]at h1⊢;rw[hp ad ha];exact h1⟩,fun _ _=>trivial⟩
instance itEnt {said:List jK} : cV (dr said):=⟨fun w1 w2 h h1 x hx=>⟨fun ad ha=>by
  have h2:=(h1 x hx).1 ad ha;have h3:=h ad.block ⟨x,hx,ad,ha,rfl⟩;rw[Array.getElem?_eq_getElem h2]at h3;exact (Array.getElem?_eq_some_iff.1 h3).1,zf (fun ad ha=>h ad.block ⟨x,hx,ad,ha,rfl⟩) (h1 x hx).2⟩,fun w h k ⟨x,hx,ad,ha,hk⟩=>hk▸(h x hx).1 ad ha⟩
structure WS where
 n:Nat
 au:Int
 said:List jK
 fin:Nat
 broken:Bool
abbrev dB (b:Nat)(q:Option Addr)(e:Nat)(x:WS):List Value:=[.pointer (some ⟨b,0,none⟩),.int .i64 (x.n:Int),.int .u32 x.au,.slice q x.said.length e,.int .i64 (x.fin:Int),.bool x.broken]
abbrev jg (g b:Nat)(q:Option Addr)(e:Nat)(x:WS):Wk.Item:=both (Wk.box g 134 (dB b q e x)) (both (Wk.row 25 1 q x.said.length e (aa x.said)) (dr x.said))
theorem St.TH {w0:World}{M0:Nat→Prop}{ds:List Deferred}{a:Act}{w:World}{l:List Value}{bs:List Wk.Item}{fs:List (World→Prop)}(S:St w0 M0 ds a w l bs fs)(y:Wk.Item)[oy:cV y](hy:y.holds w)(hf:∀ k,¬y.aj k):St w0 M0 ds a w l (y::bs) fs:=
 ⟨S.slots,S.defers,S.wd.addItem (aJ.refl _ _) hy (fun k hk=>(hf k hk).elim) (fun k hk=>(hf k hk).elim) oy.loc⟩
def gK (n:Nat)(s:DS):DS × Int:=if (bg s 0 (List.replicate (2*n+2) zB)).2=0 then eT n 0 [] (bg s 0 (List.replicate (2*n+2) zB)).1 else bg s 0 (List.replicate (2*n+2) zB)
def zg (n:Nat):WS:=⟨n,0,[⟨none,0,[]⟩],1,false⟩
theorem IY (b m n:Nat)(p:Option Addr)(c:Nat)(s:DS)(w0:World)(hm:jY s n=true)(hl:s.loose.length≤980000)(hd:(ay b m p c s).holds w0) :
  aT prog 18 [.pointer (some ⟨b,0,none⟩),.int .i64 (n:Int)] w0 (ay b m p c s).aj fun v w'=>
   ((gK n s).2≠0∧v=.tuple ⟨[.pointer none,.int .i64 (gK n s).2]⟩∧∃ p' c',(ay b m p' c' (gK n s).1).holds w'∧∀ k,(ay b m p' c' (gK n s).1).aj k→(ay b m p c s).aj k∨w0.heap.size≤k)∨
   ((gK n s).2=0∧∃ g p' c' q e,v=.tuple ⟨[.pointer (some ⟨g,0,none⟩),.int .i64 0]⟩∧(both (ay b m p' c' (gK n s).1) (jg g b q e (zg n))).holds w'∧∀ k,(both (ay b m p' c' (gK n s).1) (jg g b q e (zg n))).aj k→(ay b m p c s).aj k∨w0.heap.size≤k):=by
 have hn:n≤1000:=by simp[jY]at hm;omega
 have hlo:=iu s 0 (List.replicate (2*n+2) zB);rw[List.length_replicate]at hlo;refine E1 func18 rfl ntmps18 (Wd.bV (x:=ay b m p c s) (fs:=[]) hd (by simp)) ?_;intro a S;refine mK ?_;intro a S;have Iz:(ay b m p c s).holds _:=S.it (ay b m p c s);refine sr S (Oa b m p c s.loose.length s n _ (az.aO Iz.1 (fun h=>h))) ?_;rintro _ a w rfl S;refine J1 ?_;intro a S;rw[hm,show (!true)=false from rfl]at S;refine ug ?_;intro a S;rw[w6 (2*(n:Int))]at S;refine J1 ?_;intro a S;rw[show IntKind.i64.wrap (2*(n:Int)+2)=((2*n+2:Nat):Int) from by rw[w6 _];rfl]at S;have hlt:=a_ S;refine sr S (IV zB (2*n+2) _) ?_;rintro _ a w ⟨h0,h1,rfl,⟨n0,n1⟩,e0,e1⟩ S;replace S:=S.add (Φ:=az h0 3 [.int .i64 ((2*n+2:Nat):Int)]) (az.aO e0 (fun hm=>by have:=hlt _ hm;omega));replace S:=S.add (Φ:=az h1 129 (aa zB.l)) (az.aO e1 (fun hm=>by have:=hlt _ hm;omega));refine cM (ay b m p c s) S (ER 173 [.pointer (some ⟨h0,0,none⟩),.pointer (some ⟨h1,0,none⟩)] (List.replicate (2*n+2) zB) b m p c s 0 [az h1 129 (aa zB.l),az h0 3 [.int .i64 ((2*n+2:Nat):Int)]] _ (by rw[List.length_replicate];omega) (by rw[List.length_replicate];omega) (S.it (ay b m p c s)) (fun Φ hΦ=>S.bU (ay b m p c s) (S.wd.facts Φ hΦ)) (fun M w1 hM hF=>EP h0 h1 zB (2*n+2) (by omega) w1 M hM (hF _ (by simp)) (hF _ (by simp)))) rfl ?_;rintro _ a w ⟨rfl,p2,c2,hh,hn2⟩ hS;have S:=hS (ay b m p2 c2 (bg s 0 (List.replicate (2*n+2) zB)).1) hh hn2
 clear hS;refine J9 ?_;intro a S;refine kC S (fun h6=>?_) (fun h6=>?_);refine J9 ?_;intro a S;have he:(bg s 0 (List.replicate (2*n+2) zB)).2≠0:=by simpa using h6
 have h1:=S.bH (ay b m p2 c2 (bg s 0 (List.replicate (2*n+2) zB)).1) rfl;refine gO S (fun _=>.inl ?_);rw[gK,if_neg he];exact ⟨he,rfl,p2,c2,hh,h1⟩;refine kK (aQ (kS ?_));have he:(bg s 0 (List.replicate (2*n+2) zB)).2=0:=by simpa using h6
 have YK:gK n s=eT n 0 [] (bg s 0 (List.replicate (2*n+2) zB)).1:=by rw[gK,if_pos he]
 refine J4 ?_;intro a S;refine sa S ?_;intro b7 a w S;refine Y7 ?_;intro a w S;refine cM (ay b m p2 c2 (bg s 0 (List.replicate (2*n+2) zB)).1) S (ET b m n p2 c2 (bg s 0 (List.replicate (2*n+2) zB)).1 0 [] none 0 _ hn (by omega) (by simp) (by simp) (by omega) (S.it (ay b m p2 c2 (bg s 0 (List.replicate (2*n+2) zB)).1)) (fun w' _=>⟨IS (fun _=>False) w' w' (aJ.refl _ _),fun _ h=>by cases h⟩)) rfl ?_;rintro _ a w ⟨rfl,p3,c3,hh,Cu⟩ hS;have S:=hS (ay b m p3 c3 (eT n 0 [] (bg s 0 (List.replicate (2*n+2) zB)).1).1) hh Cu;clear hS;rw[←YK]at S;refine J9 ?_;intro a S;refine kC S (fun gi=>?_) (fun gi=>?_);refine J9 ?_;intro a S;have n7:(gK n s).2≠0:=by simpa using gi
 have h1:=S.bH (ay b m p3 c3 (gK n s).1) rfl;have hh:=S.it (ay b m p3 c3 (gK n s).1);refine gO S (fun _=>.inl ?_);exact ⟨n7,rfl,p3,c3,hh,h1⟩;refine J5 ?_;intro a S;refine sn S ?_;intro Ob a w S;refine J1 ?_;intro a S;refine sa S ?_;intro Mo a w S;refine J5 ?_;intro a S;have n7:(gK n s).2=0:=by simpa using gi
 replace S:=S.bT Ob 1 1 rfl (by decide);replace S:=St.TH S (dr (zg n).said) (fun x hx=>by obtain rfl:=List.mem_singleton.1 hx;exact ⟨fun ad h=>(by cases h),jd⟩) (fun k ⟨x,hx,ad,h,_⟩=>by obtain rfl:=List.mem_singleton.1 hx;cases h);replace S:=S.sub [dr (zg n).said,Wk.box Mo 134 [.pointer (some ⟨b,0,none⟩),.int .i64 (n:Int),.int .u32 0,.slice (some ⟨Ob,0,none⟩) 1 1,.int .i64 1,.bool false],Wk.row 25 1 (some ⟨Ob,0,none⟩) 1 1 [.slice none 0 0],ay b m p3 c3 (gK n s).1] [];have S:=S.perm [Wk.box Mo 134 (dB b (some ⟨Ob,0,none⟩) 1 (zg n)),Wk.row 25 1 (some ⟨Ob,0,none⟩) 1 1 [.slice none 0 0],dr (zg n).said,ay b m p3 c3 (gK n s).1] ((List.perm_append_comm (l₁:=[Wk.box Mo 134 (dB b (some ⟨Ob,0,none⟩) 1 (zg n)),Wk.row 25 1 (some ⟨Ob,0,none⟩) 1 1 [.slice none 0 0]]) (l₂:=[dr (zg n).said])).append_right [ay b m p3 c3 (gK n s).1]);have hh:=St.iM S rfl rfl rfl rfl;have h1:=St.p_ S rfl rfl rfl rfl;refine gO S (fun _=>.inr ?_);exact ⟨n7,Mo,p3,c3,some ⟨Ob,0,none⟩,1,rfl,hh,h1⟩
theorem Mp (g b:Nat)(q:Option Addr)(e:Nat)(x:WS)(_hs:x.said.length≤1000000∧0 < x.said.length)(hf:x.fin≤1000000)(hn:x.n≤1000)(w0:World)(hb:Fx w0 (az g 134 (dB b q e x))):aT prog 100 [.pointer (some ⟨g,0,none⟩)] w0 (fun _=>False) fun v _=>v=.int .i64 ((x.n:Int) - x.fin):=by
 refine E1 func100 rfl ntmps100 (Wd.begin (fs:=[az g 134 (dB b q e x)]) (by simpa using hb)) ?_;intro a S;refine FF ?_;intro a S;refine bM [T9 0,T9 1,T9 2,T9 3,T9 4,T9 5,T9 6,T9 7,T9 8,T9 9,T9 10] [] S ?_;intro w S;(iterate 11 (refine dq S ?_;intro a S));refine dn (aQ (kT ?_));refine aD S (fun _=>?_);rw[w6 _]
theorem xG (g b:Nat)(q:Option Addr)(e:Nat)(x:WS)(w0:World)(hb:Fx w0 (az g 134 (dB b q e x))):aT prog 99 [.pointer (some ⟨g,0,none⟩)] w0 (fun _=>False) fun v _=>v=.bool x.broken:=by
 refine E1 func99 rfl ntmps99 (Wd.begin (fs:=[az g 134 (dB b q e x)]) (by simpa using hb)) ?_;intro a S;refine kS (kR (sq S ?_));intro a S;refine kN (aQ (kS (kR ?_)));(iterate 3 (refine sq S ?_;intro a S));refine gT S ?_;refine sq S ?_;intro a S;refine gT S ?_;refine sq S ?_;intro a S;refine gT S ?_;refine sq S ?_;intro a S;refine gT S ?_;(iterate 3 (refine sq S ?_;intro a S));refine kN (aQ (kT ?_));refine aD S (fun _=>?_);rfl
def jD (x:WS)(bs:List UInt8):Int:=if 40000 < bs.length then 3 else if x.broken then 8 else 0
theorem xH (g b:Nat)(q:Option Addr)(e:Nat)(x:WS)(y:jK)(w0:World)(hb:Fx w0 (az g 134 (dB b q e x))):aT prog 77 [.pointer (some ⟨g,0,none⟩),.slice y.p y.bs.length y.c] w0 (fun _=>False) fun v _=>v=.int .i64 (jD x y.bs):=by
 refine E1 func77 rfl ntmps77 (Wd.begin (fs:=[az g 134 (dB b q e x)]) (by simpa using hb)) ?_;intro a S;refine mK ?_;intro a S;refine J3 ?_;intro a S;refine kC S (fun h3=>?_) (fun h3=>?_);refine J8 ?_;intro a S;have h:40000 < y.bs.length:=by have:=of_decide_eq_true h3;omega
 refine aD S (fun _=>?_);rw[jD,if_pos h];refine J9 ?_;intro a S;refine kC S (fun h5=>?_) (fun h5=>?_);refine J8 ?_;intro a S;have h:¬40000 < y.bs.length:=by have:=of_decide_eq_false h3;omega
 have hx:x.broken=true:=h5;refine aD S (fun _=>?_);rw[jD,if_neg h,if_pos hx];refine J9 ?_;intro a S;have h:¬40000 < y.bs.length:=by have:=of_decide_eq_false h3;omega
 have hx:x.broken=false:=h5;refine aD S (fun _=>?_);rw[jD,if_neg h,hx];rfl
def mW (x:WS)(v:Int):WS:={ x with broken:=x.broken||decide (v≠0) }
theorem PR (g b:Nat)(q:Option Addr)(e:Nat)(x:WS)(y:jK)(h0:0 < x.said.length)(hy:aq x.said 0=y)(hl:y.bs.length≤1000000)(w0:World)(f1:Fx w0 (az g 134 (dB b q e x)))(f2:Fx w0 (av q x.said))(f3:Fx w0 (av y.p y.bs)) :
  aT prog 86 [.pointer (some ⟨g,0,none⟩)] w0 (fun _=>False) fun v w'=>∃ p' c',v=.slice p' y.bs.length c'∧w'.ownsRow 0 5 1 (.slice p' y.bs.length c') y.bs.length (aa y.bs)∧∀ ad,p'=some ad→w0.heap.size≤ad.block:=by
 have hK:cx 0 x.said.length:=⟨h0⟩;refine E1 func86 rfl ntmps86 (Wd.begin (fs:=[az g 134 (dB b q e x),av q x.said,av y.p y.bs]) (by simp;exact ⟨f1,f2,f3⟩)) ?_;intro a S;refine mK ?_;intro a S;refine J3 ?_;intro a S;rw[hy]at S;replace S:=S.cP 5 1;refine gA S (by simp only[maxLen];omega) (by omega) ?_;rintro p3 c3 a w - S;rw[j6,Nat.zero_add]at S;refine J4 ?_;intro a S;have hrow:=S.row p3 y.bs.length;have hnew:=S.cQ p3 y.bs.length;refine aD S (fun _=>?_);exact ⟨p3,c3,rfl,hrow,fun ad h=>(hnew ad h).elim (fun h=>h.elim) id⟩
def n8 (cl:List jK):World→Prop:=fun w=>∀ y∈cl,av y.p y.bs w
def nB (cl:List jK):List (Nat × jK):=(List.range cl.length).map fun k=>(k+1,aq cl k)
def TJ (x:Nat × jK)(vs:List Value)(W0 W1:World):Prop:=∃ p' c',vs=[.int .i64 (x.1:Int),.slice p' x.2.bs.length c']∧W1.ownsRow 0 5 1 (.slice p' x.2.bs.length c') x.2.bs.length (aa x.2.bs)∧∀ ad,p'=some ad→W0.heap.size≤ad.block
theorem IZ (g:Nat)(cl:List jK)(q:Option Addr)(e:Nat)(hl:cl.length≤1000000)(hby:∀ y∈cl,y.bs.length≤1000000)(w0:World)(M:Nat→Prop)(hM:∀ k,M k→k < w0.heap.size)(f0:ag M w0 (az g 33 [.slice q cl.length e]))(f1:ag M w0 (av q cl))(f2:ag M w0 (n8 cl)) :
  oF prog 188 [.pointer (some ⟨g,0,none⟩)] w0 M TJ (nB cl):=by
 intro L J Jx hy hJ;have hF:∀ Φ∈[az g 33 [.slice q cl.length e],av q cl,n8 cl],ag M w0 Φ:=by simp;exact ⟨f0,f1,f2⟩
 refine (callsIn_wide (n:=0)).2 ?_;refine E1 func188 rfl ntmps188 (Wd.fE (M:=M) (fs:=[az g 33 [.slice q cl.length e],av q cl,n8 cl]) hM hF) ?_;intro a S;refine J8 ?_;intro a S;refine eR (ι:=Nat) (fun k a w=>k≤cl.length∧∃ N w1,J k w1∧∃ uu:Nat→Value,St w1 (fun _=>False) [] a w ((.func (.yield L) #[] #[])::(.pointer (some ⟨g,0,none⟩))::uu 2::uu 3::uu 4::(.slice q cl.length e)::(.int .i64 (cl.length:Nat))::(.int .i64 (k:Nat))::uu 8::uu 9::uu 10::uu 11::uu 12::uu 13::uu 14::uu 15::uu 16::uu 17::uu 18::uu 19::[]) [ext N] [az g 33 [.slice q cl.length e],av q cl,n8 cl]) (fun k=>cl.length - k) 0 ?_ ?_;exact ⟨Nat.zero_le _,M,w0,hJ,S.uu,S⟩;clear S;rintro k a w ⟨hk,N,w1,Ir,uu,S⟩;refine J6 ?_;intro a S;refine kC S (fun h1=>?_) (fun h1=>?_);refine kK (aQ (kS (kB (kS ?_))));have hkn:k < cl.length:=by have:=of_decide_eq_true h1;omega
 have hK:cx k cl.length:=⟨hkn⟩;have hx:(nB cl)[k]? = some (k+1,aq cl k):=by rw[nB,List.getElem?_map,List.getElem?_range hkn];rfl
 have wR:=hby _ (bh hkn);replace S:=S.add (Φ:=av (aq cl k).p (aq cl k).bs) ((S.mem.fact (n8 cl)).imp fun _ h=>h _ (bh hkn));refine rP ?_;intro a S;rw[show IntKind.i64.wrap ((k:Int)+1)=((k+1:Nat):Int) from by rw[w6 _];rfl]at S;refine J1 ?_;intro a S;replace S:=S.cP 5 1;refine gA S (by simp only[maxLen];omega) (by omega) ?_;rintro p3 c3 a w - S;rw[j6,Nat.zero_add]at S;have hrow:=S.row p3 (aq cl k).bs.length;have hnew:=S.cQ p3 (aq cl k).bs.length;refine sy S (M:=M) (wI:=w0) (dz:=[az g 33 [.slice q cl.length e],av q cl,n8 cl]) hF (hy _ _ _ w1 _ hx Ir S.wd.agree ⟨p3,c3,rfl,hrow,fun ad h=>(hnew ad h).elim (fun h=>h.elim) id⟩) ?_;clear S hrow hnew;intro ok N' a w2 hT hX S;refine J3 ?_;intro a S;refine kC S (fun h3=>?_) (fun h3=>?_);refine kT (Ac (tG (tG (Ac ?_))));exact CQ S ⟨w2,S.wd.agree,.inr (hX (by simpa using h3))⟩;refine J8 ?_;intro a S;rw[w6 ((k:Int)+1)]at S;exact ⟨k+1,⟨by omega,N',w2,hT (by simpa using h3),S.uu,S⟩,by omega⟩;refine kE (fT (fT (mM ?_)));have hkn:k=cl.length:=by have:=of_decide_eq_false h1;omega
 refine CQ S ⟨w1,S.wd.agree,.inl ?_⟩;rw[nB,List.length_map,List.length_range,←hkn];exact Ir
def YL (g:Nat):Value:=.func (.func 188) #[] ⟨[.pointer (some ⟨g,0,none⟩)]⟩
theorem Oc (g b:Nat)(q:Option Addr)(e:Nat)(x:WS)(h0:0 < x.said.length)(hc:x.said.length≤e)(w0:World)(f1:Fx w0 (az g 134 (dB b q e x))) :
  aT prog 94 [.pointer (some ⟨g,0,none⟩)] w0 (fun _=>False) fun v w'=>∃ h,v=YL h∧w0.heap.size≤h∧az h 33 [.slice (if e=1 then q else q.map (·.add (1*1))) (x.said.length - 1) (e - 1)] w':=by
 have hLa:eS 1 x.said.length:=⟨h0⟩;have hLb:eS x.said.length e:=⟨hc⟩;have hLc:eS 1 e:=⟨by omega⟩;refine E1 func94 rfl ntmps94 (Wd.begin (fs:=[az g 134 (dB b q e x)]) (by simpa using f1)) ?_;intro a S;refine J7 ?_;intro a S;refine sa S ?_;intro b3 a w S;refine sP ?_;intro a w S;refine J6 ?_;intro a S;have hn:=(S.mS b3).elim (fun h=>h.elim) id;have hh:=S.ir b3;exact aD S (fun _=>⟨b3,rfl,hn,hh⟩)
abbrev YM (x:bF):List Value:=aa x.l
instance Ib:cX bF:=⟨64,YM,fun x=>x.len,fun _x u hu=>hY _ u hu⟩
instance YN:dW bF:={ Ib with
 dflt:=zB
 ny:=fun _ _=>True
 mono:=fun _ _ _ _ _=>trivial }
instance:Ai bF 64:=⟨rfl,by decide⟩
instance {x:bF} : gx x (aa x.l):=⟨rfl⟩
instance YO:YH prog 129:=⟨by kernel_rfl⟩
instance Pw {x:bF} : gW (aa x.l) 64:=⟨x.len⟩
theorem r7 (n:Int):((Wk.u8 n).toNat:Int)=n % 256:=by
 unfold Wk.u8;rw[UInt8.toNat_ofNat'];omega
theorem be4 (v:Int):be 4 v=[Wk.u8 (v.fdiv 16777216),Wk.u8 (v.fdiv 65536),Wk.u8 (v.fdiv 256),Wk.u8 (v.fdiv 1)]:=rfl
theorem be2 (v:Int):be 2 v=[Wk.u8 (v.fdiv 256),Wk.u8 (v.fdiv 1)]:=rfl
theorem Ge (c:UInt8)(bs:List UInt8)(x:Int):iU (c::bs) x=iU bs (IntKind.u64.wrap (IntKind.u64.wrap (256*x)+(c.toNat:Int))):=rfl
theorem qT (v:Int)(h:0≤v∧v≤4294967295)(r:List UInt8):qd (be 4 v++r)=v:=by
 have h1:=Int.fdiv_eq_ediv_of_nonneg v (b:=16777216) (by omega);have h2:=Int.fdiv_eq_ediv_of_nonneg v (b:=65536) (by omega);have h3:=Int.fdiv_eq_ediv_of_nonneg v (b:=256) (by omega);have h4:=Int.fdiv_eq_ediv_of_nonneg v (b:=1) (by omega);rw[qd,List.take_left' (bI 4 v),be4,Ge,Ge,Ge,Ge,r7,r7,r7,r7,h1,h2,h3,h4]
 show IntKind.u32.wrap (iU [] _)=v
 rw[show ∀ x,iU [] x=x from fun _=>rfl];rw[jV (256*0) (by omega) (by omega),jV (256*0+_) (by omega) (by omega),jV (256*(256*0+_)) (by omega) (by omega),jV (256*(256*0+_)+_) (by omega) (by omega)];rw[jV (256*(256*(256*0+_)+_)) (by omega) (by omega),jV (256*(256*(256*0+_)+_)+_) (by omega) (by omega)];rw[jV (256*(256*(256*(256*0+_)+_)+_)) (by omega) (by omega),jV (256*(256*(256*(256*0+_)+_)+_)+_) (by omega) (by omega)];rw[wT _ (by omega) (by omega)];omega
theorem zh (v:Int)(h:0≤v∧v≤65535)(r:List UInt8):F8 (be 2 v++r)=v:=by
 have h3:=Int.fdiv_eq_ediv_of_nonneg v (b:=256) (by omega);have h4:=Int.fdiv_eq_ediv_of_nonneg v (b:=1) (by omega);rw[F8,List.take_left' (bI 2 v),be2,Ge,Ge,r7,r7,h3,h4];rw[show ∀ x,iU [] x=x from fun _=>rfl];rw[jV (256*0) (by omega) (by omega),jV (256*0+_) (by omega) (by omega),jV (256*(256*0+_)) (by omega) (by omega),jV (256*(256*0+_)+_) (by omega) (by omega)];rw[FJ _ (by omega) (by omega)];omega
theorem EU {u v:Int}(hu:0≤u∧u≤4294967295)(hv:0≤v∧v≤4294967295)(h:be 4 u=be 4 v):u=v:=by
 rw[←qT u hu [],←qT v hv [],h]
theorem I0 {u v:Int}(hu:0≤u∧u≤65535)(hv:0≤v∧v≤65535)(h:be 2 u=be 2 v):u=v:=by
 rw[←zh u hu [],←zh v hv [],h]
theorem xI {bs:List UInt8}(h:bs.length=60):(qS bs).l.drop 4=bs:=by
 rw[EN h,List.drop_left' (by rw[List.length_drop,vi])]
theorem bF.ext' {x y:bF}(h:x.l=y.l):x=y:=by cases x;cases y;cases h;rfl
theorem oO (t j:Int)(bs:List UInt8)(k:Nat):(ia t j bs k).l.drop 4=nZ t j bs.length (bs.drop (48*k)):=xI (xE _ _ _ _)
theorem qf {t j t' j':Int}{bs bs':List UInt8}{k k':Nat}(h:ia t j bs k=ia t' j' bs' k') :
  be 4 t=be 4 t'∧be 4 j=be 4 j'∧be 2 (bs.length:Int)=be 2 (bs'.length:Int)∧be 2 ((bs.drop (48*k)).length:Int)=be 2 ((bs'.drop (48*k')).length:Int)∧jR (bs.drop (48*k))=jR (bs'.drop (48*k')):=by
 have h1:nZ t j bs.length (bs.drop (48*k))=nZ t' j' bs'.length (bs'.drop (48*k')):=by rw[←oO,←oO,h]
 unfold nZ at h1;obtain ⟨h1,e5⟩:=List.append_inj' h1 (by rw[j_,j_]);obtain ⟨h1,e4⟩:=List.append_inj' h1 (by rw[bI,bI]);obtain ⟨h1,e3⟩:=List.append_inj' h1 (by rw[bI,bI]);obtain ⟨e1,e2⟩:=List.append_inj' h1 (by rw[bI,bI]);exact ⟨e1,e2,e3,e4,e5⟩
theorem A9 (t j:Int)(bs:List UInt8)(k:Nat):(ia t j bs k).l.drop 12=be 2 (bs.length:Int)++(be 2 ((bs.drop (48*k)).length:Int)++jR (bs.drop (48*k))):=by
 rw[show 12=4+8 from rfl,←List.drop_drop,oO,nZ];simp only[List.append_assoc];rw[←List.append_assoc (be 4 t),List.drop_left' (by simp[bI])]
theorem I1 (t j:Int)(bs:List UInt8)(k:Nat):(ia t j bs k).l.drop 16=jR (bs.drop (48*k)):=by
 rw[show 16=12+4 from rfl,←List.drop_drop,A9,←List.append_assoc,List.drop_left' (by simp[bI])]
def gn (x:bF):Int:=F8 (x.l.drop 12)
theorem A_ (t j:Int)(bs:List UInt8)(k:Nat)(h:bs.length≤40000):gn (ia t j bs k)=bs.length:=by
 rw[gn,A9,zh _ (by omega)]
theorem qU (x:bF):0≤gn x∧gn x≤65535:=by
 unfold gn F8 IntKind.wrap;simp only[IntKind.bits,IntKind.signed,Bool.false_and];simp;omega
def ff (xs:List bF):List UInt8:=(xs.map fun x=>x.l.drop 16).flatten
theorem YP (m:Nat):∀ bs:List UInt8,bs.length≤48*m→(((List.range m).map fun k=>jR (bs.drop (48*k))).flatten).take bs.length=bs:=by
 induction m with
 | zero=>intro bs h;obtain rfl:bs=[]:=List.eq_nil_of_length_eq_zero (by omega);rfl
 | succ m ih=>
  intro bs h;rw[List.range_succ_eq_map,List.map_cons,List.flatten_cons,List.map_map];have e:((fun k=>jR (bs.drop (48*k))) ∘ Nat.succ)=fun k=>jR ((bs.drop 48).drop (48*k)):=by
   funext k;simp only[Function.comp_apply,List.drop_drop];congr 2;show 48*(k+1)=_;omega
  rw[e,show 48*0=0 from rfl,List.drop_zero,List.take_append,j_];have h2:=ih (bs.drop 48) (by rw[List.length_drop];omega);rw[List.length_drop]at h2;rw[h2]
  by_cases h48:bs.length≤48
  ·rw[List.drop_of_length_le h48,List.append_nil,jR,List.take_of_length_le h48,List.take_left' rfl]
  ·rw[List.take_of_length_le (by rw[j_];omega),jR,show 48 - bs.length=0 from by omega,Lj,List.append_nil,List.take_append_drop]
theorem fW (n:Nat):0 < bN n:=by unfold bN;split <;> omega
theorem Ba (n:Nat):n≤48*bN n:=by unfold bN;split <;> omega
theorem tU (n:Nat)(h:n≤40000):bN n≤834:=by unfold bN;split <;> omega
theorem wU (t j:Int)(bs:List UInt8):(ff (aG t j bs)).take bs.length=bs:=by
 rw[ff,aG,List.map_map,show ((fun x:bF=>x.l.drop 16) ∘ ia t j bs)=fun k=>jR (bs.drop (48*k)) from funext fun k=>I1 t j bs k];exact YP _ _ (Ba _)
theorem fR (t j:Int)(bs:List UInt8)(k:Nat)(h:k < bN bs.length):(aG t j bs)[k]? = some (ia t j bs k):=by
 rw[aG,List.getElem?_map,List.getElem?_range h];rfl
def jE (T:Int)(x:bF):Prop:=∀ t j bs k,T≤t→t≤4294967295→1≤j→j≤4294967295→x≠ia t j bs k
theorem jE.mono {T T':Int}{x:bF}(h:jE T x)(hT:T≤T'):jE T' x:=fun t j bs k h1 h2 h3 h4=>h t j bs k (Int.le_trans hT h1) h2 h3 h4
theorem mX (T:Int):jE T zB:=by
 intro t j bs k _ _ h3 h4 h;have h1:(zB.l.drop 4).drop 4=be 4 j++(be 2 (bs.length:Int)++(be 2 ((bs.drop (48*k)).length:Int)++jR (bs.drop (48*k)))):=by
  rw[h,oO,nZ];simp only[List.append_assoc];rw[List.drop_left' (bI _ _)]
 have h2:qd ((zB.l.drop 4).drop 4)=j:=by rw[h1,qT j (by omega)]
 have h5:qd ((zB.l.drop 4).drop 4)=0:=by decide
 omega
theorem xJ (T t j:Int)(bs:List UInt8)(k:Nat)(ht:0≤t∧t≤4294967295)(h:t < T):jE T (ia t j bs k):=by
 intro t' j' bs' k' h1 h2 _ _ e;have:=EU ht (by omega) (qf e).1;omega
theorem zi (T t:Int)(bs:List UInt8)(k:Nat):jE T (ia t 0 bs k):=by
 intro t' j' bs' k' _ _ h3 h4 e;have:=EU (u:=0) (by omega) (by omega) (qf e).2.1;omega
def lB (t j:Int)(tail:List bF):Prop:=∀ bs:List UInt8,bs.length≤40000→¬aG t j bs <+: tail
theorem wV {t j:Int}{tail:List bF}(ht:t≤4294967295)(hj:1≤j∧j≤4294967295)(h:∀ x∈tail,jE t x):lB t j tail:=by
 intro bs _ ⟨r,hr⟩;have h0:=fR t j bs 0 (fW _);have hm:ia t j bs 0∈tail:=by rw[←hr];exact List.mem_append_left _ (List.mem_of_getElem? h0)
 exact h _ hm t j bs 0 (Int.le_refl _) ht hj.1 hj.2 rfl
def fh (t:Int)(field:List bF)(at_:Nat)(j:Int):Option (List UInt8):=
 if field.length≤at_ then none else
 if (kO (gn (aq field at_))).toNat=0∨field.length - at_ < (kO (gn (aq field at_))).toNat then none else
 if aG t j ((ff ((field.drop at_).take (kO (gn (aq field at_))).toNat)).take (gn (aq field at_)).toNat)=(field.drop at_).take (kO (gn (aq field at_))).toNat then
  some ((ff ((field.drop at_).take (kO (gn (aq field at_))).toNat)).take (gn (aq field at_)).toNat) else none
theorem kQ (n:Nat)(h:n≤40000):kO (n:Int)=(bN n:Int):=by
 rw[kO,if_neg (by omega),Int.toNat_natCast]
theorem Db {t:Int}{field:List bF}{at_:Nat}{j:Int}{bs:List UInt8}(hl:bs.length≤40000)(h:aG t j bs <+: field.drop at_):fh t field at_ j=some bs:=by
 obtain ⟨r,hr⟩:=h;have h0:=fR t j bs 0 (fW _);have hlen:(aG t j bs).length=bN bs.length:=bB _ _ _;have hd:field.length - at_=bN bs.length+r.length:=by rw[←List.length_drop,←hr,List.length_append,hlen]
 have hp:=fW bs.length;have hn:aq field at_=ia t j bs 0:=by
  have h1:field[at_]? = some (ia t j bs 0):=by
   have h2:(field.drop at_)[0]? = some (ia t j bs 0):=by rw[←hr,List.getElem?_append_left (by omega),h0]
   rwa [List.getElem?_drop,Nat.add_zero]at h2
  have h3:=bu (xs:=field) (k:=at_) (by omega);exact Option.some.inj (h3.symm.trans h1)
 have hs:gn (aq field at_)=(bs.length:Int):=by rw[hn,A_ _ _ _ _ hl]
 have hf:(kO (gn (aq field at_))).toNat=bN bs.length:=by rw[hs,kQ _ hl,Int.toNat_natCast]
 have ht:(field.drop at_).take (bN bs.length)=aG t j bs:=by rw[←hr,List.take_left' hlen]
 have hg:(ff ((field.drop at_).take (bN bs.length))).take bs.length=bs:=by rw[ht,wU]
 rw[fh,if_neg (by omega),hf,hs,Int.toNat_natCast,hg,ht,if_neg (by omega),if_pos rfl]
theorem mq {t:Int}{field:List bF}{at_:Nat}{j:Int}{bs:List UInt8}(h:fh t field at_ j=some bs):bs.length≤40000∧aG t j bs <+: field.drop at_:=by
 rw[fh]at h;split at h;cases h;split at h;cases h
 rename_i h1 h2
 split at h
 rename_i h3
 have hb:=Option.some.inj h;rw[hb]at h3;have hr:=qU (aq field at_);have h40:(gn (aq field at_)).toNat≤40000:=by
  unfold kO at h2;split at h2;simp at h2;omega
 refine ⟨?_,by rw[h3];exact List.take_prefix _ _⟩;rw[←hb,List.length_take];omega;cases h
theorem Dc {t:Int}{field:List bF}{at_:Nat}{j:Int}(h:lB t j (field.drop at_)):fh t field at_ j=none:=by
 cases hs:fh t field at_ j with
 | none=>rfl
 | some bs=>exact absurd (mq hs).2 (h bs (mq hs).1)
theorem xL {t:Int}{field:List bF}{at_:Nat}{j:Int}{bs:List UInt8}(h:fh t field at_ j=some bs):at_+bN bs.length≤field.length:=by
 obtain ⟨r,hr⟩:=(mq h).2;have h1:=congrArg List.length hr;have h2:=fW bs.length;rw[List.length_append,bB,List.length_drop]at h1;omega
def eJ (t:Int)(field:List bF):Nat→Nat→Nat→List (List UInt8) × Nat
 | 0,at_,_=>([],at_)
 | f+1,at_,j=>match fh t field at_ (j:Int) with
  | none=>([],at_)
  | some bs=>(bs::(eJ t field f (at_+bN bs.length) (j+1)).1,(eJ t field f (at_+bN bs.length) (j+1)).2)
theorem vn {t:Int}{field:List bF}{at_ j:Nat}(h:fh t field at_ (j:Int)=none):∀ f,eJ t field f at_ j=([],at_)
 | 0=>rfl
 | f+1=>by rw[eJ,h]
def dg (t:Int):List (List UInt8)→Nat→List bF
 | [],_=>[]
 | b::l,j=>aG t (j:Int) b++dg t l (j+1)
theorem Dd {t:Int}(tail:List bF):∀ (said:List (List UInt8)) (pre:List bF) (j f:Nat),(∀ b∈said,b.length≤40000)→(dg t said j).length+tail.length≤f→lB t ((j+said.length:Nat):Int) tail→
  eJ t (pre++(dg t said j++tail)) f pre.length j=(said,pre.length+(dg t said j).length):=by
 intro said
 induction said with
 | nil=>
  intro pre j f _ _ hn;rw[dg,j6];exact vn (Dc (by rw[List.drop_left];exact hn)) f
 | cons b l ih=>
  intro pre j f hl hf hn;have hb:=hl b (by simp);have hp:=fW b.length;have hs:fh t (pre++(dg t (b::l) j++tail)) pre.length (j:Int)=some b:=Db hb (by rw[List.drop_left,dg,List.append_assoc];exact ⟨_,rfl⟩);rw[dg,List.length_append,bB]at hf;cases f with
  | zero=>omega
  | succ f=>
   have h1:=ih (pre++aG t (j:Int) b) (j+1) f (fun x hx=>hl x (by simp[hx])) (by omega) (by rw[show j+1+l.length=j+(b::l).length from by rw[jb];omega];exact hn);rw[List.length_append,bB]at h1;rw[eJ,hs];simp only[];have e:pre++(dg t (b::l) j++tail)=pre++aG t (j:Int) b++(dg t l (j+1)++tail):=by rw[dg];simp only[List.append_assoc]
   rw[e,h1];rw[show (dg t (b::l) j).length=bN b.length+(dg t l (j+1)).length from by rw[dg,List.length_append,bB]];rw[Nat.add_assoc]
theorem vo (t:Int)(b:List UInt8):∀ (l:List (List UInt8)) (j:Nat),dg t (l++[b]) j=dg t l j++aG t ((j+l.length:Nat):Int) b
 | [],j=>by simp[dg]
 | x::l,j=>by rw[Cl,dg,dg,vo t b l (j+1),List.append_assoc,jb,show j+1+l.length=j+(l.length+1) from by omega]
structure PT where
 kind:Int
 n:Int
 fill:UInt8
 p:Option Addr
 c:Nat
 keep:List Bool
abbrev YQ (x:PT):List Value:=[.int .i64 x.kind,.int .i64 x.n,.int .u8 (x.fill.toNat:Int),.slice x.p x.keep.length x.c]
theorem zj (n:Int)(h:1≤n∧n≤2048)(w0:World):aT prog 45 [.int .i64 n] w0 (fun _=>False) fun v w'=>∃ b m,v=.tuple ⟨[.pointer (some ⟨b,0,none⟩),.int .i64 0]⟩∧(ay b m none 0 (gZ n)).holds w'∧∀ k,(ay b m none 0 (gZ n)).aj k→w0.heap.size≤k:=by
 refine (Pz n h w0).mono fun v w'=>?_
 rintro ⟨b,m,rfl,hne,hb,hm,h1,h2⟩;refine ⟨b,m,rfl,⟨h1,⟨h2,World.ownsRow_nil _ _ _ _,fun k _ ⟨ad,h,_⟩=>by cases h⟩,?_⟩,?_⟩;rintro k hk (hk2 | ⟨ad,h,_⟩);exact hne ((show b=k from hk.symm).trans hk2);cases h;rintro k (hk | hk | ⟨ad,h,_⟩);exact (show k=b from hk)▸hb;exact (show k=m from hk)▸hm;cases h
instance (priority:=500) opPgE {P:Program}{l:Cx}{bs:List Wk.Item}{fs:List (World→Prop)}{x y:Operand}{t t' ty e:TypeId}{q:Option Addr}[Ev l x (.pointer q)][Ev l y (.pointer none)][dN P t (.pointer e)]:dO P (.binOp .eql t x y t') ty l bs fs (.bool q.isNone):=by
 cases q;exact NY;exact N0
theorem mY (bs:List UInt8):0≤qd bs∧qd bs≤4294967295:=by
 unfold qd IntKind.wrap;simp only[IntKind.bits,IntKind.signed,Bool.false_and];simp;omega
theorem jh (s:DS)(k:Int):(lA s k).loose=s.loose:=by
 unfold lA;split
 show (fe s k false).loose=_;exact qe s k false
 exact qe s k false
structure Bb where
 has:Bool
 n:Int
 t:Int
def RM (b:Nat)(B:Bb):Option Addr:=if B.has then some ⟨b,0,none⟩ else none
theorem qV (b:Nat)(B:Bb):(RM b B).isNone = !B.has:=by
 unfold RM;cases B.has <;> rfl
abbrev Mq (b:Nat)(B:Bb):List Value:=[.pointer (RM b B),.int .i64 B.n,.int .u32 B.t]
def i_ (x:bF):Int:=qd (x.l.drop 4)
def ic (x:bF):Int:=qd ((x.l.drop 4).drop 4)
def sX (s:DS)(i:Nat)(x:bF)(B:Bb):Bool:=jY s (i_ x)&&decide (ic x % 2=(i:Int))&&decide (x.l=(bW (ic x) (i_ x)).l)&&(!B.has||decide (B.t < ic x))
def ew (s:DS)(i:Nat)(x:bF)(B:Bb):Bb:=if sX s i x B then ⟨true,i_ x,ic x⟩ else B
def jZ:Nat→Nat→DS→Bb→DS × Int × Bb
 | 0,_,s,B=>if B.has then (s,0,B) else (s,140,⟨false,0,0⟩)
 | k+1,i,s,B=>if cS s (i:Int) false=0 then jZ k (i+1) (lA s i) (ew (lA s i) i (EI s i) B) else (lA s i,cS s i false,⟨false,0,0⟩)
def cw (s:DS):DS × Int × Bb:=jZ 2 0 s ⟨false,0,0⟩
theorem I2 (b m:Nat)(p:Option Addr)(c:Nat)(s:DS)(w0:World)(hl:s.loose.length≤999000)(hd:(ay b m p c s).holds w0) :
  aT prog 146 [.pointer (some ⟨b,0,none⟩)] w0 (ay b m p c s).aj fun v w'=>v=.tuple ⟨[.agg ⟨Mq b (cw s).2.2⟩,.int .i64 (cw s).2.1]⟩∧∃ p' c',(ay b m p' c' (cw s).1).holds w'∧∀ i,(ay b m p' c' (cw s).1).aj i→(ay b m p c s).aj i∨w0.heap.size≤i:=by
 refine E1 func146 rfl ntmps146 (Wd.bV (x:=ay b m p c s) (fs:=[]) hd (by simp)) ?_;intro a S;refine kS (kR ?_);refine sa S ?_;intro b2 a w S;refine J5 ?_;intro a S;refine sa S ?_;intro b4 a w S;refine J9 ?_;intro a S;refine Ez S (fun(i:Nat) (s':DS) (p':Option Addr) (c':Nat) (B:Bb) uu=>[(3,uu 3),(1,uu 5),(0,uu 6),(0,uu 7),(0,uu 8),(0,uu 9),(0,uu 10),(0,.int .i64 (i:Nat)),(0,uu 12),(0,uu 13),(0,uu 14),(0,uu 15),(0,uu 16),(0,uu 17),(0,uu 18),(0,uu 19),(0,uu 20),(0,uu 21),(0,uu 22),(0,uu 23),(0,uu 24),(0,uu 25),(0,uu 26),(0,uu 27),(0,uu 28),(0,uu 29),(0,uu 30),(0,uu 31),(0,uu 32),(0,uu 33),(0,uu 34),(0,uu 35),(0,uu 36),(0,uu 37),(0,uu 38),(0,uu 39),(0,uu 40),(0,uu 41),(0,uu 42),(0,uu 43),(0,uu 44),(0,uu 45),(0,uu 46),(0,uu 47),(0,uu 48),(0,uu 49),(0,uu 50),(0,uu 51),(0,uu 52),(0,uu 53),(0,uu 54),(0,uu 55),(0,uu 56),(0,uu 57),(0,uu 58),(0,uu 59),(0,uu 60),(0,uu 61),(0,uu 62),(0,uu 63)]) (fun(i:Nat) (s':DS) (p':Option Addr) (c':Nat) (B:Bb)=>[Wk.box b4 132 (Mq b B),Wk.box b2 132 [.pointer none,.int .i64 0,.int .u32 0],ay b m p' c' s']) (fun(i:Nat) (s':DS) (p':Option Addr) (c':Nat) (B:Bb)=>i≤2∧cw s=jZ (2 - i) i s' B∧s'.loose=s.loose) (fun(i:Nat) (s':DS) (p':Option Addr) (c':Nat) (B:Bb)=>2 - i) (0) (s) (p) (c) (⟨false,0,0⟩) ?_ S.uu ?_ ?_;exact ⟨by omega,rfl,rfl⟩;exact S;clear S;rintro i s' p' c' B uu a w ⟨hi,jC,wS⟩ S;refine J6 ?_;intro a S;refine kC S (fun h3=>?_) (fun h3=>?_);refine kK (aQ (kS (kB (kS ?_))));have hi2:i < 2:=by have:=of_decide_eq_true h3;omega
 rw[show 2 - i=(2 - (i+1))+1 from by omega,jZ]at jC;refine J9 ?_;intro a S;refine cM (ay b m p' c' s') S (yU b m p' c' s' (i:Int) _ (by rw[wS];omega) (S.it (ay b m p' c' s'))) rfl ?_;rintro _ a w ⟨rfl,p2,c2,hh,hn⟩ hS;have S:=hS (ay b m p2 c2 (lA s' i)) hh hn;clear hS;refine J3 ?_;intro a S;refine sa S ?_;intro b6 a w S;refine Y1 ?_;intro a w S;obtain ⟨x,hx⟩:∃ x,x=EI s' i:=⟨_,rfl⟩;rw[←hx]at S jC;refine mJ ?_;intro a S;refine kC S (fun h6=>?_) (fun h6=>?_);refine Sa ?_;intro a w S;have he:cS s' (i:Int) false≠0:=by simpa using h6
 rw[if_neg he]at jC;have h1:=S.bH (ay b m p2 c2 (lA s' i)) rfl;have hh:=S.it (ay b m p2 c2 (lA s' i));refine gO S (fun _=>?_);rw[jC];exact ⟨rfl,p2,c2,hh,h1⟩;refine kK (aQ (kS ?_));have sR:eS 4 64:=⟨by omega⟩;have K8:eS 64 64:=⟨by omega⟩;have he:cS s' (i:Int) false=0:=by simpa using h6
 rw[if_pos he]at jC;refine J2 ?_;intro a S;have hold:=a_ S;have Ag:=x.h;have hg:Fx w (av (some ⟨b6,4,none⟩) (x.l.drop 4)):=(A4 (IM (S.box b6))).imp fun _ h=>h.drop 4 (c:=64) (by rw[x.h];omega)
 refine td S (y_ (x.l.drop 4) (some ⟨b6,4,none⟩) 60 60 _ (by rw[List.length_drop];omega) (by omega) hg) ?_;rintro _ a w hsz ⟨br,q,e,rfl,pL,hrd,Cr,hq⟩ hS -;have S:=hS (Wk.box br 238 [.slice q (x.l.drop 4).length e,.int .i64 0]) hrd (fun k hk=>by rw[show k=br from hk];exact pL);clear hS;replace S:=St.C7 S hold hq;have hd4:(x.l.drop 4).length=60:=by rw[List.length_drop];omega
 have hd8:(x.l.drop 4).length - 4=((x.l.drop 4).drop 4).length:=by simp only[List.length_drop]
 refine J6 ?_;intro a S;refine cM (Wk.box br 238 [.slice q (x.l.drop 4).length e,.int .i64 0]) S (II br (x.l.drop 4) q e _ (by omega) Cr (by omega) (S.box br) (S.bU (Wk.box br 238 [.slice q (x.l.drop 4).length e,.int .i64 0]) (S.mem.fact (av q (x.l.drop 4))))) rfl ?_;rintro _ a w ⟨rfl,ju⟩ hS;have S:=hS (Wk.box br 238 [.slice (if e=4 then q else q.map (·.add (4*1))) ((x.l.drop 4).length - 4) (e - 4),.int .i64 0]) ju (fun k h=>.inl h);clear hS;replace S:=S.add (Φ:=av (if e=4 then q else q.map (·.add (4*1))) ((x.l.drop 4).drop 4)) ((S.mem.fact (av q (x.l.drop 4))).imp fun _ h=>h.drop 4 Cr);rw[hd8]at S;obtain ⟨q2,IP⟩:∃ q2,q2=(if e=4 then q else q.map (·.add (4*1))):=⟨_,rfl⟩;rw[←IP]at S;refine J1 ?_;intro a S;have RN:=mY (x.l.drop 4);rw[w6 (qd (x.l.drop 4))]at S;refine J1 ?_;intro a S;refine cM (Wk.box br 238 [.slice q2 ((x.l.drop 4).drop 4).length (e - 4),.int .i64 0]) S (II br ((x.l.drop 4).drop 4) q2 (e - 4) _ (by omega) (by omega) (by omega) (S.box br) (S.bU (Wk.box br 238 [.slice q2 ((x.l.drop 4).drop 4).length (e - 4),.int .i64 0]) (S.mem.fact (av q2 ((x.l.drop 4).drop 4))))) rfl ?_;rintro _ a w ⟨rfl,ju⟩ hS;have S:=hS (Wk.box br 238 [.slice (if e - 4=4 then q2 else q2.map (·.add (4*1))) (((x.l.drop 4).drop 4).length - 4) (e - 4 - 4),.int .i64 0]) ju (fun k h=>.inl h);clear hS;refine J5 ?_;intro a S;rw[show qd (x.l.drop 4)=i_ x from rfl,show qd ((x.l.drop 4).drop 4)=ic x from rfl]at S;have hn2:0≤i_ x∧i_ x≤4294967295:=mY _
 have YR:0≤ic x∧ic x≤4294967295:=mY _;have hT:∀ bs fs,cB prog 176 [.int .u32 (ic x),.int .i64 (i_ x)] bs fs (iy (bW (ic x) (i_ x))):=fun bs fs=>⟨fun w _=>EO (ic x) (i_ x) YR hn2 w⟩
 refine bM [T9 0,T9 1,F9 2,T9 3,T9 4,T9 5,T9 6,T9 7,T9 8,T9 9,T9 10,T9 11,T9 12,T9 13,F9 14,T9 15,T9 16,T9 17,T9 18,T9 19,T9 20,T9 21,T9 22,T9 23,T9 24,T9 25,T9 26,T9 27] [] S ?_;intro w S;(iterate 2 (refine dq S ?_;intro a S));refine dl ?_;have Iz:(ay b m p2 c2 (lA s' i)).holds w:=S.it (ay b m p2 c2 (lA s' i));refine sr S (Oa b m p2 c2 (lA s' i).loose.length (lA s' i) (i_ x) _ (az.aO Iz.1 (fun h=>h))) ?_;rintro _ a w rfl S;refine de S ?_;refine dq S ?_;intro a S;(iterate 5 (refine iX S ?_;intro a S));(iterate 2 (refine dq S ?_;intro a S));(iterate 3 (refine iX S ?_;intro a S));refine dl ?_;refine gC S ?_;intro a w S;refine de S ?_;refine iX S ?_;intro a S;(iterate 2 (refine dq S ?_;intro a S));(iterate 9 (refine iX S ?_;intro a S));refine dq S ?_;intro a S;refine dn (aQ ?_);refine kC S (fun gi=>?_) (fun gi=>?_);refine Li ?_;intro a w S;rw[show IntKind.i64.wrap ((i:Int)+1)=((i+1:Nat):Int) from by rw[w6 _];rfl]at S;have hc:ew (lA s' i) i x B=⟨true,i_ x,ic x⟩:=by
  rw[Int.tmod_eq_emod_of_nonneg YR.1,w6 _,qV]at gi;rw[ew,sX,if_pos gi]
 rw[hc]at jC;refine ⟨i+1,lA s' i,p2,c2,⟨true,i_ x,ic x⟩,S.uu,⟨by omega,jC,by rw[jh,wS]⟩,S.sub [Wk.box b4 132 [.pointer (some ⟨b,0,none⟩),.int .i64 (i_ x),.int .u32 (ic x)],Wk.box b2 132 [.pointer none,.int .i64 0,.int .u32 0],ay b m p2 c2 (lA s' i)] [],by omega⟩;refine J8 ?_;intro a S;rw[show IntKind.i64.wrap ((i:Int)+1)=((i+1:Nat):Int) from by rw[w6 _];rfl]at S;have hc:ew (lA s' i) i x B=B:=by
  rw[Int.tmod_eq_emod_of_nonneg YR.1,w6 _,qV]at gi;rw[ew,sX,if_neg (by rw[gi];exact Bool.false_ne_true)]
 rw[hc]at jC;refine ⟨i+1,lA s' i,p2,c2,B,S.uu,⟨by omega,jC,by rw[jh,wS]⟩,S.sub _ _,by omega⟩;refine rP ?_;intro a S;refine kC S (fun Ah=>?_) (fun Ah=>?_);refine Y9 ?_;intro a w S;have hi2:i=2:=by have:=of_decide_eq_false h3;omega
 subst hi2;rw[qV]at Ah;have hB:B.has=false:=by simpa using Ah
 have h1:=S.bH (ay b m p' c' s') rfl;have hh:=S.it (ay b m p' c' s');refine gO S (fun _=>?_);rw[jC,jZ,if_neg (by rw[hB];exact Bool.false_ne_true)];exact ⟨rfl,p',c',hh,h1⟩;refine NJ ?_;intro a w S;have hi2:i=2:=by have:=of_decide_eq_false h3;omega
 subst hi2;rw[qV]at Ah;have hB:B.has=true:=by simpa using Ah
 have h1:=S.bH (ay b m p' c' s') rfl;have hh:=S.it (ay b m p' c' s');refine gO S (fun _=>?_);rw[jC,jZ,if_pos hB];exact ⟨rfl,p',c',hh,h1⟩
instance (priority:=1190) Od {P:Program}{t ty e:TypeId}{lc:Cx}{bs:List Wk.Item}{fs:List (World→Prop)}{x:Operand}{ol oh:Option Operand}{q:Option Addr}{k s o lo hi n sz dy:Nat}{z:Value}[Ev lc x (.pointer (some (eG q k s o)))][hl:Cp lc ol 0 lo][hh:Cp lc oh n hi][ht:dN P t (.array n e)][TI P e z sz dy][h2:eS hi n][h3:eS lo hi] :
  dO P (.slice t x ol oh none) ty lc bs fs (.slice (some (if n=lo then eG q k s o else eG q k s (o+lo*sz))) (hi - lo) (n - lo)):=⟨fun ρ w hf _=>by
 have hb:(Instr.sliceBounds false n n (ol.map ρ) (oh.map ρ) none).run P w=.ok (lo,hi,n) w:=by
  rcases hh.eq with ⟨rfl,rfl⟩ | ⟨o2,LH,rfl,h'⟩
  rcases hl.eq with ⟨rfl,rfl⟩ | ⟨o3,AG,rfl,h''⟩
  simp[Instr.sliceBounds];have e3:=hf.ev (x:=o3) (v:=.int AG (lo:Int));simp[Instr.sliceBounds,e3,Go.Wk.run_sliceBound h3.le];have e2:=hf.ev (x:=o2) (v:=.int LH (hi:Int));rcases hl.eq with ⟨rfl,rfl⟩ | ⟨o3,AG,rfl,h''⟩
  simp[Instr.sliceBounds,e2,Go.Wk.run_sliceBound h2.le];have e3:=hf.ev (x:=o3) (v:=.int AG (lo:Int));simp[Instr.sliceBounds,Sem.run_bind,e2,e3,Go.Wk.run_sliceBound h2.le,Go.Wk.run_sliceBound h3.le]
 have eX:ρ x=.pointer (some (eG q k s o)):=hf.ev;simp[cu,execOp,Instr.sliceAt,eX,Sem.run_bind,cp,Instr.sureAddr,hb,cv,lY]⟩
theorem Ms {w:World}{q:Option Addr}{xs:List bF}{k:Nat}(o:Nat)(hk:k < xs.length)(h:av q xs w):av (some (eG q k 64 o)) ((aq xs k).l.drop o) w:=by
 refine ⟨⟨fun h=>(by cases h),fun ad hp j u hj=>?_⟩,fun _ _=>trivial⟩;obtain rfl:=Option.some.inj hp;rw[lY];have h1:=kF (aq xs k).l o;rw[show o*cX.sz UInt8=o from Nat.mul_one o]at h1;rw[h1,List.getElem?_drop]at hj;exact Eu h hk hj
theorem I3 {w:World}{p:Option Addr}{bs:List UInt8}(h:av p bs w)(hl:0 < bs.length){ad:Addr}(hp:p=some ad):ad.block < w.heap.size:=by
 have h0:0 < (aa bs).length:=by rw[aU];exact Nat.mul_pos hl (by decide)
 have h1:=h.1.2 ad hp 0 _ (List.getElem?_eq_getElem h0);have h2:(ad.add 0).block=ad.block:=by unfold Addr.add;split <;> rfl
 unfold World.cell? at h1;rw[h2]at h1;cases hb:w.heap[ad.block]? with
 | none=>rw[hb]at h1;cases h1
 | some o=>exact (Array.getElem?_eq_some_iff.1 hb).1
theorem De {w:World}{p:Option Addr}{c:Nat}{bs:List UInt8}(h1:∀ ad,p=some ad→ad.block < w.heap.size)(h2:av p bs w):(dr [⟨p,c,bs⟩]).holds w:=fun x hx=>by obtain rfl:=List.mem_singleton.1 hx;exact ⟨h1,h2⟩
theorem Df (xs:List bF):(ff xs).length=48*xs.length:=by
 induction xs with
 | nil=>rfl
 | cons x xs ih=>
  have h1:=x.h;have h2:ff (x::xs)=x.l.drop 16++ff xs:=rfl;rw[h2,List.length_append,ih,List.length_drop,jb];omega
theorem Bc (xs:List bF)(x:bF):ff (xs++[x])=ff xs++x.l.drop 16:=by simp[ff]
theorem Dg (n:Int):0≤kO n∧kO n≤834:=by
 unfold kO;split;omega;have:=tU n.toNat (by omega);omega
theorem Gf {n:Int}(h:0≤n)(h2:(kO n).toNat≠0):n≤40000∧(kO n).toNat=bN n.toNat∧n.toNat≤48*(kO n).toNat:=by
 have hm:=Ba n.toNat;unfold kO at h2⊢;split at h2;exact absurd rfl h2
 rename_i h3
 rw[if_neg h3,Int.toNat_natCast];exact ⟨by omega,rfl,hm⟩
theorem I4 (b n:Nat)(au:Int)(field:List bF)(q:Option Addr)(e at_ j:Nat)(ht:0≤au∧au≤4294967295)(hj:j≤1000000)(hfl:field.length≤1000)(hfe:field.length≤e)(hat:at_≤1000000)(w0:World)(f0:Fx w0 (av q field)) :
  aT prog 148 [.agg ⟨gX b n au⟩,.slice q field.length e,.int .i64 (at_:Int),.int .i64 (j:Int)] w0 (fun _=>False) fun v w'=>
   (fh au field at_ j=none∧v=.tuple ⟨[.slice none 0 0,.bool false]⟩)∨
   (∃ bs p',fh au field at_ j=some bs∧v=.tuple ⟨[.slice p' bs.length bs.length,.bool true]⟩∧(dr [⟨p',bs.length,bs⟩]).holds w'∧∀ k,(dr [⟨p',bs.length,bs⟩]).aj k→w0.heap.size≤k):=by
 refine pX func148 rfl rfl (Wd.begin (fs:=[av q field]) (by simpa using f0)) (fun a S=>?_);refine E0 ntmps148 ?_;intro S;refine kS (kR ?_);refine sa S ?_;intro b4 a w S;refine sa S ?_;intro b5 a w S;refine sa S ?_;intro b6 a w S;refine sa S ?_;intro b8 a w S;refine sa S ?_;intro b9 a w S;refine gM ?_;intro a S;refine kC S (fun h1=>?_) (fun h1=>?_)
 ·refine Y8 ?_;intro a w S
  have h:field.length≤at_:=by have:=of_decide_eq_true h1;omega
  refine nx S (fun w hw=>.inl ⟨by rw[fh,if_pos h],rfl⟩)
 ·refine kK (aQ (kS ?_))
  have hlt:at_ < field.length:=by have:=of_decide_eq_false h1;omega
  have hK:cx at_ field.length:=⟨hlt⟩;have sR:eS 12 64:=⟨by omega⟩;have K8:eS 64 64:=⟨by omega⟩;have Hs:eS 16 64:=⟨by omega⟩;obtain ⟨x,hx⟩:∃ x,x=aq field at_:=⟨_,rfl⟩;have Ag:=x.h;refine J5 ?_;intro a S;rw[show (Value.slice (some (if 64=12 then eG q at_ 64 0 else eG q at_ 64 (0+12*1))) (64 - 12) (64 - 12))=.slice (some (eG q at_ 64 12)) 52 52 from rfl]at S;have hold:=a_ S;refine td S (y_ (x.l.drop 12) (some (eG q at_ 64 12)) 52 52 _ (by rw[List.length_drop];omega) (by omega) ((S.mem.fact (av q field)).imp (fun _ h=>hx▸Ms 12 hlt h) |>.less fun _ _ h=>h.elim)) ?_;rintro _ a w hsz ⟨br,qr,er,rfl,pL,hrd,Cr,hq⟩ hS -;have S:=hS (Wk.box br 238 [.slice qr (x.l.drop 12).length er,.int .i64 0]) hrd (fun k hk=>by rw[show k=br from hk];exact pL);clear hS;replace S:=St.C7 S hold hq;have hd4:(x.l.drop 12).length=52:=by rw[List.length_drop];omega
  refine J6 ?_;intro a S;refine cM (Wk.box br 238 [.slice qr (x.l.drop 12).length er,.int .i64 0]) S (To br (x.l.drop 12) qr er _ (by omega) Cr (by omega) (S.box br) (S.bU (Wk.box br 238 [.slice qr (x.l.drop 12).length er,.int .i64 0]) (S.mem.fact (av qr (x.l.drop 12))))) rfl ?_;rintro _ a w ⟨rfl,ju⟩ hS;have S:=hS (Wk.box br 238 [.slice (if er=2 then qr else qr.map (·.add (2*1))) ((x.l.drop 12).length - 2) (er - 2),.int .i64 0]) ju (fun k h=>.inl h);clear hS;refine J1 ?_;intro a S;have hsr:=qU x;rw[show F8 (x.l.drop 12)=gn x from rfl]at S;obtain ⟨sz,Mt⟩:∃ sz:Nat,gn x=(sz:Int):=⟨(gn x).toNat,by omega⟩;rw[Mt]at hsr;rw[Mt,w6 (sz:Int)]at S;refine J6 ?_;intro a S;refine sr S (ke (sz:Int) _) ?_;rintro _ a w rfl S;have hsb:=Dg (sz:Int);obtain ⟨M,hM⟩:∃ M:Nat,kO (sz:Int)=(M:Int):=⟨(kO (sz:Int)).toNat,by omega⟩;rw[hM]at S;refine Lh ?_;intro a S;refine kC S (fun h6=>?_) (fun h6=>?_)
  ·refine Y8 ?_;intro a w S
   have h:M=0∨field.length - at_ < M:=by
    rw[w6 ((field.length:Int) - (at_:Int))]at h6;simp at h6;omega
   refine nx S (fun w hw=>.inl ⟨?_,rfl⟩);rw[fh,if_neg (by omega),←hx,Mt,hM,Int.toNat_natCast,if_pos h]
  ·refine kK (aQ (kS ?_))
   have YS:M≠0∧M≤field.length - at_:=by
    rw[w6 ((field.length:Int) - (at_:Int))]at h6;simp at h6;omega
   have zk:=Gf (n:=(sz:Int)) (by omega) (by rw[hM,Int.toNat_natCast];exact YS.1);rw[hM,Int.toNat_natCast,Int.toNat_natCast]at zk;have hLa:eS at_ (at_+M):=⟨by omega⟩;have hLb:eS (at_+M) e:=⟨by omega⟩;have hLc:eS e e:=⟨Nat.le_refl _⟩;refine jq ?_;intro a S;rw[show IntKind.i64.wrap ((at_:Int)+(M:Int))=((at_+M:Nat):Int) from by rw[w6 _];rfl]at S;refine J1 ?_;intro a S;rw[show at_+M - at_=M from by omega]at S;obtain ⟨q3,Oe⟩:∃ q3,q3=(if e=at_ then q else q.map (·.add (at_*64))):=⟨_,rfl⟩;rw[←Oe]at S;obtain ⟨part,hpart⟩:∃ part,part=(field.drop at_).take M:=⟨_,rfl⟩;have hpl:part.length=M:=by rw[hpart,List.length_take,List.length_drop];omega
   have hg:∀ w,av q field w→av q3 part w:=fun w h=>by rw[hpart,Oe];exact (h.drop at_ hfe).take M
   replace S:=S.add (Φ:=av q3 part) ((S.mem.fact (av q field)).imp hg);refine J2 ?_;intro a S;replace S:=S.cP 5 1;refine kN (aQ (kB ?_));refine Ey S (fun(k:Nat) (pr:Option Addr) (cr:Nat) uu=>[(13,.slice pr (48*k) cr),(1,uu 15),(32,.int .i64 (k:Nat)),(0,uu 49),(0,uu 50),(0,uu 51),(0,uu 52),(0,uu 53),(0,uu 54),(0,uu 55)]) (fun(k:Nat) (pr:Option Addr) (cr:Nat)=>[Wk.row 5 1 pr (48*k) cr (aa (ff (part.take k))),Wk.box b9 4 [.bool false],Wk.box b8 25 [.slice none 0 0],Wk.box b6 3 [.int .i64 (at_:Int)],Wk.box b5 219 [.slice q field.length e],Wk.box b4 132 (gX b n au),marks []]) (fun(k:Nat) (pr:Option Addr) (cr:Nat)=>[av q3 part,av q field]) (fun(k:Nat) (pr:Option Addr) (cr:Nat)=>k≤M) (fun(k:Nat) (pr:Option Addr) (cr:Nat)=>M - k) (0) (none) (0) ?_ S.uu ?_ ?_
   ·exact Nat.zero_le _
   ·exact S.sub [Wk.row 5 1 none 0 0 [],Wk.box b9 4 [.bool false],Wk.box b8 25 [.slice none 0 0],Wk.box b6 3 [.int .i64 (at_:Int)],Wk.box b5 219 [.slice q field.length e],Wk.box b4 132 (gX b n au),marks []] [av q3 part,av q field]
   ·clear S;rintro k pr cr uu a w hk S;refine J6 ?_;intro a S
    refine kC S (fun gi=>?_) (fun gi=>?_)
    ·refine kK (aQ (kS (kB (kS ?_))))
     have hk2:k < M:=by have:=of_decide_eq_true gi;omega
     have Cq:cx k part.length:=⟨by omega⟩;have hK3:cx k M:=⟨hk2⟩;obtain ⟨y,hy⟩:∃ y,y=aq part k:=⟨_,rfl⟩;have wR:=y.h;refine J3 ?_;intro a S;rw[←hy]at S;refine sa S ?_;intro O3 a w S;refine Y6 ?_;intro a w S;rw[show (Value.slice (some (if 64=16 then (⟨O3,0,none⟩:Addr) else ⟨O3,16*1,none⟩)) (64 - 16) (64 - 16))=.slice (some ⟨O3,16,none⟩) 48 48 from rfl]at S;replace S:=S.iJ O3;replace S:=S.add (Φ:=av (some ⟨O3,16,none⟩) (y.l.drop 16)) ((S.mem.fact (az O3 129 (aa y.l))).imp fun _ h=>(IM h).drop 16 (c:=64) (by rw[wR];omega));have hy48:eu (y.l.drop 16) 48:=⟨by rw[List.length_drop];omega⟩;refine gA S (by simp only[maxLen];omega) (by omega) ?_;rintro p3 c3 a w - S;rw[←aC,hy,←Bc,←qb (by omega:k < part.length),show 48*k+48=48*(k+1) from by omega]at S;refine J9 ?_;intro a S;rw[w6 ((k:Int)+1)]at S;exact ⟨k+1,p3,c3,S.uu,hk2,S.sub _ _,by omega⟩
    ·refine kE (fT (fT (mM (aQ (kS ?_)))))
     have hkM:k=M:=by have:=of_decide_eq_false gi;omega
     subst hkM;rw[List.take_of_length_le (by omega:part.length≤k)]at S;have hnew:=S.cQ pr (48*k);have PU:=bS (S.row pr (48*k));have Mu:=gm (S.row pr (48*k));replace S:=S.bA pr (ff part) (e:=5) (sz:=1) (n:=48*k) (c:=cr) (fun _ _ _ _=>trivial);have hLd:eS sz cr:=⟨by omega⟩;have YD:eS sz sz:=⟨Nat.le_refl _⟩;have hLf:eS 0 sz:=⟨Nat.zero_le _⟩;have wK:=Df part;refine J5 ?_;intro a S;obtain ⟨all,hall⟩:∃ all,all=(ff part).take sz:=⟨_,rfl⟩;have YT:all.length=sz:=by rw[hall,List.length_take];omega
     have Ct:∀ w,av pr (ff part) w→av pr all w:=fun w h=>by rw[hall];exact h.take sz
     replace S:=S.add (Φ:=av pr all) ((S.mem.fact (av pr (ff part))).imp Ct);refine mJ ?_;intro a S;rw[wT (j:Int) (by omega) (by omega)]at S;refine J1 ?_;intro a S;have PV:=a_ S;refine sr S (vl au (j:Int) pr sz sz _) ?_;rintro _ a w ⟨g0,g1,g2,rfl,⟨n0,n1,n2⟩,e0,e1,e2⟩ S;replace S:=S.add (Φ:=az g0 25 [.slice pr sz sz]) (az.aO e0 (fun hm=>by have:=PV _ hm;omega));replace S:=S.add (Φ:=az g1 130 [.int .u32 au]) (az.aO e1 (fun hm=>by have:=PV _ hm;omega));replace S:=S.add (Φ:=az g2 130 [.int .u32 (j:Int)]) (az.aO e2 (fun hm=>by have:=PV _ hm;omega));refine kN (aQ (kB ?_));subst YT;have TK:(aG au (j:Int) all).length=k:=by rw[bB];exact zk.2.1.symm
     have hst:fh au field at_ j=if aG au (j:Int) all=part then some all else none:=by
      rw[fh,if_neg (by omega),←hx,Mt,hM,Int.toNat_natCast,Int.toNat_natCast,if_neg (by omega),←hpart,←hall]
     refine qE (κ:=Unit) (κx:=Nat) (Ds:=[]) (aG au (j:Int) all)
      (fun i _=>[Wk.box b9 4 [.bool false],Wk.box b8 25 [.slice none 0 0],Wk.box b6 3 [.int .i64 ((at_+i:Nat):Int)],Wk.box b5 219 [.slice q field.length e],Wk.box b4 132 (gX b n au),marks []])
      (fun _ _=>[az g2 130 [.int .u32 (j:Int)],az g1 130 [.int .u32 au],az g0 25 [.slice pr all.length all.length],av pr all,av pr (ff part),av q3 part,av q field])
      (fun i _=>part.take i=(aG au (j:Int) all).take i)
      (fun i=>[Wk.box b9 4 [.bool false],Wk.box b8 25 [.slice none 0 0],Wk.box b6 3 [.int .i64 ((at_+i:Nat):Int)],Wk.box b5 219 [.slice q field.length e],Wk.box b4 132 (gX b n au),marks []])
      (fun _=>[az g2 130 [.int .u32 (j:Int)],az g1 130 [.int .u32 au],az g0 25 [.slice pr all.length all.length],av pr all,av pr (ff part),av q3 part,av q field])
      (fun cd _=>cd=.ret∧aG au (j:Int) all≠part) () S
      (fun M w1 hM hF _=>rZ au (j:Int) ht (by omega) g0 g1 g2 all pr all.length (by omega) (Nat.le_refl _) w1 M hM (hF _ (by simp)) (hF _ (by simp)) (hF _ (by simp)) (hF _ (by simp))) ⟨rfl,rfl,rfl⟩ ?_ ?_ ?_ ?_
     ·clear S
      rintro L D bL M' w1 i x2 vs ⟨⟩ W0 w RO o_ RL Ho rfl;have hik:i < k:=by rw[←TK];exact (List.getElem?_eq_some_iff.1 RO).1
      have hpi:part[i]? = some (aq field (at_+i)):=by
       rw[hpart,List.getElem?_take,if_pos hik,List.getElem?_drop,bu (by omega)]
      have Yz:cx (at_+i) field.length:=⟨by omega⟩;refine ⟨_,inferInstance,fun a S=>?_⟩;refine kR (sa S ?_);intro b16 a w S;refine Y3 ?_;intro a w S;refine uG (D:=D) (b:=bL) S ?_;intro a w S;refine kB (kS (kS ?_));refine bM [T9 0,T9 1,T9 2,T9 3,T9 4,T9 5] [] S ?_;intro w S;(iterate 6 (refine dq S ?_;intro a S));refine dn (aQ ?_);refine kC S (fun Hu=>?_) (fun Hu=>?_)
      ·refine Y9 ?_;intro a w S
       have hne:aG au (j:Int) all≠part:=by
        intro he;rw[he,hpi]at RO;have:=Option.some.inj RO;rw[this]at Hu;simp at Hu
       refine LB (D:=D) (b:=bL) (S.sub [lP L D (kW bL .busy none),Wk.box b9 4 [.bool false],Wk.box b8 25 [.slice none 0 0],Wk.box b6 3 [.int .i64 ((at_+i:Nat):Int)],Wk.box b5 219 [.slice q field.length e],Wk.box b4 132 (gX b n au),marks []] [az g2 130 [.int .u32 (j:Int)],az g1 130 [.int .u32 au],az g0 25 [.slice pr all.length all.length],av pr all,av pr (ff part),av q3 part,av q field]) fun W hW=>⟨.inl rfl,i,⟨rfl,hne⟩,hW⟩
      ·refine J5 ?_;intro a S
       rw[show IntKind.i64.wrap (((at_+i:Nat):Int)+1)=((at_+(i+1):Nat):Int) from by rw[w6 _];rfl]at S;refine Y3 ?_;intro a w S;have VY:x2=aq field (at_+i):=bF.ext' (by simpa using (by simpa using Hu:(aq field (at_+i)).l=x2.l).symm);refine AE (D:=D) (b:=bL) (S.sub [lP L D (kW bL .busy none),Wk.box b9 4 [.bool false],Wk.box b8 25 [.slice none 0 0],Wk.box b6 3 [.int .i64 ((at_+(i+1):Nat):Int)],Wk.box b5 219 [.slice q field.length e],Wk.box b4 132 (gX b n au),marks []] [az g2 130 [.int .u32 (j:Int)],az g1 130 [.int .u32 au],az g0 25 [.slice pr all.length all.length],av pr all,av pr (ff part),av q3 part,av q field]) fun W hW=>⟨(),by rw[List.take_add_one,List.take_add_one,o_,hpi,RO,VY],hW⟩
     ·clear S
      rintro D ⟨⟩ a w o_ S;replace S:=S.join (Ds:=[]);refine NJ ?_;intro a w S;have he:aG au (j:Int) all=part:=by
       rw[TK,List.take_of_length_le (by omega),List.take_of_length_le (by omega)]at o_;exact o_.symm
      refine nx S (fun w hw=>.inr ⟨all,pr,by rw[hst,if_pos he],rfl,De (fun ad ha=>?_) (hw.facts (av pr all) (by simp)).now,fun k2 ⟨y,hy,ad,ha,hk2⟩=>?_⟩)
      ·exact I3 (hw.facts (av pr (ff part)) (by simp)).now (by omega) ha
      ·obtain rfl:=List.mem_singleton.1 hy
       exact hk2▸(hnew ad ha).elim (fun h=>h.elim) id
     ·rintro D i a w ⟨-,hne⟩ S
      replace S:=S.join (Ds:=[])
      repeat (first | refine Ac ?_ | refine tG ?_)
      refine nx S (fun w hw=>.inl ⟨?_,rfl⟩);rw[hst,if_neg hne]
     ·rintro id D _ a w ⟨h,-⟩;cases h
def gp (fr:Nat):List bF→Nat→Bool→DS→DS × Int × Bool
 | [],_,sy,s=>(s,0,sy)
 | x::xs,i,sy,s=>if x.l=zB.l then gp fr xs (i+1) sy s else if cS s ((fr+i:Nat):Int) true=0 then gp fr xs (i+1) true (l_ s ((fr+i:Nat):Int) zB) else (l_ s ((fr+i:Nat):Int) zB,cS s ((fr+i:Nat):Int) true,true)
def n9 (r:DS × Int × Bool):DS × Int:=if r.2.1=0 then (if r.2.2 then (oL r.1,cS r.1 0 true) else (r.1,0)) else (r.1,r.2.1)
def jF (fr fin:Nat)(field:List bF)(s:DS):DS × Int:=n9 (gp fr (field.drop fin) fin (decide (0 < s.loose.length)) s)
theorem I5 (g b m:Nat)(p:Option Addr)(c:Nat)(s:DS)(qs:Option Addr)(es:Nat)(x:WS)(field:List bF)(q:Option Addr)(e:Nat)(w0:World)(hn:x.n≤1000)(hfl:field.length=x.n)(I6:x.fin≤x.n)(ht:0≤x.au∧x.au≤4294967295)(hl:s.loose.length≤990000)(hd:(ay b m p c s).holds w0)
  (f0:ag (ay b m p c s).aj w0 (az g 134 (dB b qs es x))) (f1:ag (ay b m p c s).aj w0 (av q field)) :
  aT prog 149 [.pointer (some ⟨g,0,none⟩),.slice q field.length e] w0 (ay b m p c s).aj fun v w'=>v=.int .i64 (jF (aB x.n x.au) x.fin field s).2∧∃ p' c',(ay b m p' c' (jF (aB x.n x.au) x.fin field s).1).holds w'∧∀ i,(ay b m p' c' (jF (aB x.n x.au) x.fin field s).1).aj i→(ay b m p c s).aj i∨w0.heap.size≤i:=by
 have hfr:aB x.n x.au≤1002:=by
  unfold aB;rcases (show (x.au % 2).toNat=0∨(x.au % 2).toNat=1 by omega) with h | h <;> rw[h] <;> omega
 refine E1 func149 rfl ntmps149 (Wd.bV (x:=ay b m p c s) (fs:=[az g 134 (dB b qs es x),av q field]) hd (by simp;exact ⟨f0,f1⟩)) ?_;intro a S;refine jq ?_;intro a S;have Iz:(ay b m p c s).holds w0:=S.it (ay b m p c s);refine jU S (C4 b m p c s _ (by omega) (az.aO Iz.1 (fun h=>h)) (gJ Iz.2.1.2.1 (fun _ _ _ _=>trivial) (fun _ _ h=>h))) ?_;rintro _ a w ⟨q1,e1,rfl,hown,hg⟩ hS -;have S:=hS hown hg;clear hS;refine FF ?_;intro a S;rw[show decide ((0:Int) < (s.loose.length:Int))=decide (0 < s.loose.length) from decide_eq_decide.2 (by omega)]at S;refine qI S (fun(i:Nat) (sy:Bool) (s':DS) (p':Option Addr) (c':Nat) uu=>[(4,uu 4),(0,.bool sy),(0,.int .i64 (i:Nat)),(0,uu 7),(12,uu 20),(0,uu 21),(0,uu 22),(0,uu 23),(0,uu 24),(0,uu 25),(0,uu 26),(0,uu 27),(0,uu 28),(0,uu 29),(0,uu 30),(0,uu 31),(0,uu 32),(0,uu 33),(0,uu 34),(0,uu 35),(0,uu 36),(0,uu 37),(0,uu 38),(0,uu 39),(0,uu 40),(0,uu 41),(0,uu 42),(0,uu 43),(0,uu 44),(0,uu 45),(0,uu 46),(0,uu 47),(0,uu 48),(0,uu 49),(0,uu 50),(0,uu 51)]) (fun(i:Nat) (sy:Bool) (s':DS) (p':Option Addr) (c':Nat)=>[ay b m p' c' s']) (fun(i:Nat) (sy:Bool) (s':DS) (p':Option Addr) (c':Nat)=>[az g 134 (dB b qs es x),av q field]) (fun(i:Nat) (sy:Bool) (s':DS) (p':Option Addr) (c':Nat)=>i≤x.n∧jF (aB x.n x.au) x.fin field s=n9 (gp (aB x.n x.au) (field.drop i) i sy s')∧s'.loose.length≤s.loose.length+i) (fun(i:Nat) (sy:Bool) (s':DS) (p':Option Addr) (c':Nat)=>x.n - i) (x.fin) (decide (0 < s.loose.length)) (s) (p) (c) ?_ S.uu ?_ ?_
 exact ⟨I6,rfl,by omega⟩
 first | exact S | exact S.sub _ _
 clear S;rintro i sy s' p' c' uu a w ⟨hi,jC,wS⟩ S;refine jq ?_;intro a S;refine kC S (fun h3=>?_) (fun h3=>?_);refine kK (aQ (kS (kB (kS (kS ?_)))));have hi2:i < x.n:=by have:=of_decide_eq_true h3;omega
 have hK:cx i field.length:=⟨by omega⟩;have Cn:field.drop i=aq field i::field.drop (i+1):=by
  have h1:=bu (xs:=field) (k:=i) (by omega);rw[List.drop_eq_getElem_cons (by omega),(List.getElem?_eq_some_iff.1 h1).2]
 obtain ⟨y,hy⟩:∃ y,y=aq field i:=⟨_,rfl⟩;rw[Cn,gp,←hy]at jC;refine J5 ?_;intro a S;rw[←hy]at S;refine J1 ?_;intro a S;rw[show (aa (List.replicate 64 (0:UInt8)):List Value)=aa zB.l from rfl]at S;refine J3 ?_;intro a S;refine kC S (fun h5=>?_) (fun h5=>?_);refine mJ ?_;intro a S;rw[show IntKind.i64.wrap ((i:Int)+1)=((i+1:Nat):Int) from by rw[w6 _];rfl]at S;rw[if_pos (of_decide_eq_true h5)]at jC;exact ⟨i+1,sy,s',p',c',S.uu,⟨hi2,jC,by omega⟩,S.sub _ _,by omega⟩;refine J8 ?_;intro a S;refine eY [T9 0,T9 1,T9 2,T9 3,T9 4,T9 5,T9 6,T9 7,T9 8,T9 10,T9 12,F9 9,T9 11,F9 13,T9 14] [] S ?_;intro w S;refine gM ?_;intro a S;rw[show (aa (List.replicate 64 (0:UInt8)):List Value)=aa zB.l from rfl]at S;refine dl ?_;refine sr S (ze b x.n x.au hn ht _) ?_;rintro _ a w rfl S;refine de S ?_;refine dq S ?_;intro a S;rw[show IntKind.i64.wrap ((aB x.n x.au:Int)+(i:Int))=((aB x.n x.au+i:Nat):Int) from by rw[w6 _];rfl]at S;refine dl ?_;refine cM (ay b m p' c' s') S (AX b m p' c' s' ((aB x.n x.au+i:Nat):Int) zB _ (by omega) (S.it (ay b m p' c' s'))) rfl ?_;rintro _ a w ⟨rfl,p2,c2,hh,hn2⟩ hS;have S:=hS (ay b m p2 c2 (l_ s' ((aB x.n x.au+i:Nat):Int) zB)) hh hn2;clear hS;refine de S ?_;refine dq S ?_;intro a S;refine dn (aQ (kS (kR ?_)));(iterate 2 (refine sq S ?_;intro a S));refine kN (aQ ?_);refine kC S (fun h8=>?_) (fun h8=>?_)
 refine jq ?_;intro a S;have he:cS s' ((aB x.n x.au+i:Nat):Int) true≠0:=by simpa using h8
 rw[if_neg (of_decide_eq_false h5),if_neg he]at jC;have h1:=S.bH (ay b m p2 c2 (l_ s' ((aB x.n x.au+i:Nat):Int) zB)) rfl;have hh:=S.it (ay b m p2 c2 (l_ s' ((aB x.n x.au+i:Nat):Int) zB));refine aD S (fun _=>?_);rw[jC,n9,if_neg he];exact ⟨rfl,p2,c2,hh,h1⟩;refine J9 ?_;intro a S;rw[show IntKind.i64.wrap ((i:Int)+1)=((i+1:Nat):Int) from by rw[w6 _];rfl]at S;have he:cS s' ((aB x.n x.au+i:Nat):Int) true=0:=by simpa using h8
 rw[if_neg (of_decide_eq_false h5),if_pos he]at jC;have:=mo s' ((aB x.n x.au+i:Nat):Int) zB;exact ⟨i+1,true,l_ s' ((aB x.n x.au+i:Nat):Int) zB,p2,c2,S.uu,⟨hi2,jC,by omega⟩,S.sub _ _,by omega⟩;refine kE (fT (fT (mM (aQ (kS (kS ?_))))));have hi2:i=x.n:=by have:=of_decide_eq_false h3;omega
 rw[List.drop_of_length_le (by omega),gp,n9,if_pos rfl]at jC;refine J5 ?_;intro a S;refine kC S (fun gi=>?_) (fun gi=>?_);refine J7 ?_;intro a S;have TL:sy=false:=by simpa using gi
 rw[if_neg (by rw[TL];exact Bool.false_ne_true)]at jC;have h1:=S.bH (ay b m p' c' s') rfl;have hh:=S.it (ay b m p' c' s');refine aD S (fun _=>?_);rw[jC];exact ⟨rfl,p',c',hh,h1⟩;refine J9 ?_;intro a S;refine cM (ay b m p' c' s') S (EH b m p' c' s' _ (by omega) (S.it (ay b m p' c' s'))) rfl ?_;rintro _ a w ⟨rfl,p2,c2,hh,hn2⟩ hS;have S:=hS (ay b m p2 c2 (oL s')) hh hn2;clear hS;refine J4 ?_;intro a S;have TL:sy=true:=by simpa using gi
 rw[if_pos TL]at jC;have h1:=S.bH (ay b m p2 c2 (oL s')) rfl;have hh:=S.it (ay b m p2 c2 (oL s'));refine aD S (fun _=>?_);rw[jC];exact ⟨rfl,p2,c2,hh,h1⟩
end Go.Proofs.YtdakncgafdnjfaaGreat