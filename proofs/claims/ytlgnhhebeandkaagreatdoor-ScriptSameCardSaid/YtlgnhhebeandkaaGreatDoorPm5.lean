/- 5: a part of this claim's texts, joined: ScrD ScrE ScrF ScrG ScrH ScrI ScrJ PlainScriptD ScrK ScrL ScrM. -/
import Derived.Test.YtlgnhhebeandkaaGreatDoorPm4
namespace Go.Proofs.YtlgnhhebeandkaaGreatDoor
open Go Go.Wk
set_option synthInstance.maxSize 100000
set_option synthInstance.maxHeartbeats 400000
set_option maxRecDepth 100000
theorem zero_c (t:LTerm)(w0:World)(hf:Fx w0 (LtF t)):Ret Tryz.prog 105 [vL t] w0 (fun _=>False) fun v _=>v=.bool (sameF t.t zeroT):=by
 refine E1 Tryz.func105 rfl Tryz.ntmps105 (Wd.begin (fs:=[LtF t]) (by simpa using hf)) ?_;intro a S;refine kS (kR ?_);refine sa S ?_;intro b1 a w S;refine J7 ?_;intro a S;refine sr S (same_c t zeroL w (S.t0 _) (S.t0 _)) ?_;rintro _ a w rfl S;refine J4 ?_;intro a S;refine end1 S (fun _=>rfl)
instance {t:LTerm}{bs fs}[HasT fs t]:CallV Tryz.prog 105 [vL t] bs fs (.bool (sameF t.t zeroT)):=⟨fun w m=>zero_c t w (m.t0 _)⟩
theorem bad_c (t:LTerm)(w0:World)(hf:Fx w0 (LtF t)):Ret Tryz.prog 104 [vL t] w0 (fun _=>False) fun v _=>v=.bool (badT t.t):=by
 refine E1 Tryz.func104 rfl Tryz.ntmps104 (Wd.begin (fs:=[LtF t]) (by simpa using hf)) ?_;intro a S;refine kS (kR ?_);refine sa S ?_;intro b1 a w S;refine Y17 ?_;intro a w S;refine end1 S (fun _=>?_);simp[badT]
instance {t:LTerm}{bs fs}[HasT fs t]:CallV Tryz.prog 104 [vL t] bs fs (.bool (badT t.t)):=⟨fun w m=>bad_c t w (m.t0 _)⟩
instance callEvSame {x y:LEv}{bs fs}[hx:HasI fs x][hy:HasI fs y][hf:FitE x]:CallV Tryz.prog 50 [vEv x,vEv y] bs fs (.bool (sameE x.e y.e)):=⟨fun w m=>evsame_c x y hf w (m.i0 x) (m.i0 y)⟩
theorem zLE_in (w:World):InF zLE w:=⟨zeroL_in w,zeroL_in w,⟨Nat.le_refl _,Nat.zero_le _,gl_nil⟩,by simp[LEv.rng,N64]⟩
theorem pickE {c:Bool}{M:Nat→Prop}{w:World}{v:Value}{x:LEv}(h1:c=true→SpokenR M x v w)(h2:c=false→v=vEv zLE):∃ y:LEv,v=vEv y∧Stable M w (InF y)∧(c=true→y.e=spokenE x.e):=by
 cases c with
 | false=>exact ⟨zLE,h2 rfl,fun w' _=>zLE_in w',nofun⟩
 | true=>
  obtain ⟨y,e1,e2,e3⟩:=h1 rfl;exact ⟨y,e1,e2,fun _=>e3⟩
instance opMax3 {l:Cx}{bs:List Wk.Item}{fs:List (World→Prop)}{x y z:Operand}{k:IntKind}{m n o:Int}{ty t t' t2:TypeId}[Ev l x (.int k m)][Ev l y (.int k n)][Ev l z (.int k o)]:OpQ Tryz.prog (.call { callee:=.builtin .max,args:=#[x,y,z],argTypes:=#[t,t',t2] }) ty l bs fs (.int k (max (max m n) o)):=⟨fun ρ w h _=>by
 have e2:∀ (a b:Int) (w:World),(Builtin.max2 (.int k a) (.int k b)).run Tryz.prog w=.ok (.int k (max a b)) w:=fun a b w=>by
  simp[Builtin.max2];split <;> omega
 simp[xop,execOp,resolve,invoke,builtin,Builtin.max_,e2,h.ev (x:=x) (v:=.int k m),h.ev (x:=y) (v:=.int k n),h.ev (x:=z) (v:=.int k o),Sem.run_bind]⟩
theorem wrong_first (x:LEv):(decide (x.kind < 1)||decide (7 < x.kind)||decide ((2048:Int) < (x.keep.xs.length:Nat)))=(decide (x.e.kind < 1)||decide (7 < x.e.kind)||decide (2048 < x.e.keep.length)):=by
 have:decide ((2048:Int) < (x.keep.xs.length:Nat))=decide (2048 < x.e.keep.length):=by
  rw[Bool.eq_iff_iff,decide_eq_true_eq,decide_eq_true_eq]
  show _↔2048 < x.keep.xs.length
  omega
 rw[this];rfl
theorem wrong_names {a b c:Nat} : decide ((64:Int) < max (max ((a:Nat):Int) ((b:Nat):Int)) ((c:Nat):Int))=(decide (64 < a)||decide (64 < b)||decide (64 < c)):=by
 rw[Bool.eq_iff_iff];simp only[Bool.or_eq_true,decide_eq_true_eq];omega
theorem wrong_c (x:LEv)(hfit:FitE x)(w0:World)(hx:Fx w0 (InF x)):Ret Tryz.prog 60 [vEv x] w0 (fun _=>False) fun v _=>v=.bool (wrongV x.e):=by
 refine E1 Tryz.func60 rfl Tryz.ntmps60 (Wd.begin (fs:=[InF x]) (by simpa using hx)) ?_;intro a S;refine kS (kR ?_);refine sa S ?_;clear S;intro b1 a w S;refine J22 ?_;clear S;intro a S;refine kC S (fun h1=>?_) (fun h1=>?_);refine J7 ?_;clear S;intro a S;refine end1 S (fun _=>?_);rw[wrong_first]at h1;rw[wrongV,h1];simp;refine J20 ?_;clear S;intro a S;refine J5 ?_;clear S;intro a S;refine c_drawD [T9 0,T9 1,T9 2,T9 3,T9 4,F9 5,T9 6,T9 7,T9 8,T9 9,T9 10,T9 11,F9 12,T9 13,T9 14,T9 15,T9 16,F9 17,F9 18,T9 19,T9 20,T9 21] [] S ?_;clear S;intro w S;(iterate 2 (refine dq S ?_;clear S;intro a S));(iterate 3 (refine dqG S ?_;clear S;intro a S));refine dl ?_;refine gC S ?_;clear S;intro a w S;refine de S ?_;(iterate 2 (refine dq S ?_;clear S;intro a S));(iterate 4 (refine dqG S ?_;clear S;intro a S));refine dl ?_;refine gC S ?_;clear S;intro a w S;refine de S ?_;(iterate 2 (refine dq S ?_;clear S;intro a S));(iterate 2 (refine dqG S ?_;clear S;intro a S));refine dl ?_;refine gcr S (vEv zLE) (fun _=>spoken_c x _ w (foots_lt S) (S.i x)) ?_;clear S;rintro vy a w hz1 hz2 S;obtain ⟨y,rfl,hyf,hye⟩:=pickE hz1 hz2;clear hz1 hz2;replace S:=S.add hyf;refine de S ?_;refine dl ?_;refine gC S ?_;clear S;intro a w S;refine de S ?_;refine dqG S ?_;clear S;intro a S;(iterate 2 (refine dq S ?_;clear S;intro a S));refine dn (xtn (kT ?_));refine end1 S (fun _=>?_);rw[wrong_first]at h1;rw[wrong_names]at hye⊢
 rw[wrongV,h1,Bool.false_or]
 show Value.bool ((decide (64 < x.name.length)||decide (64 < x.src.length)||decide (64 < x.oname.length))||badT x.term.t||badT x.body.t||!sameE x.e y.e)=Value.bool ((decide (64 < x.name.length)||decide (64 < x.src.length)||decide (64 < x.oname.length))||badT x.term.t||badT x.body.t||!sameE x.e (spokenE x.e))
 cases hq:((decide (64 < x.name.length)||decide (64 < x.src.length)||decide (64 < x.oname.length))||badT x.term.t||badT x.body.t) with
 | true=>simp
 | false=>rw[hye (by rw[hq];rfl)]
theorem indexEv_c (F:Nat)[EntF Tryz.prog F](ca:List Value)(q:LEv→Bool)(xs:List LEv)(p:Option Addr)(n c:Nat)(w0:World)(hn:xs.length=n)(hl:n≤9223372036854775807)(hx:Fx w0 (GlF p xs))
  (hF:∀ x∈xs,∀ w,Agree (fun _=>False) w0 w→Ret Tryz.prog F (vEv x::ca) w (fun _=>False) fun v _=>v=.bool (q x)) :
  Ret Tryz.prog 103 [.slice p n c,.func (.func F) #[] ⟨ca⟩] w0 (fun _=>False) fun v _=>v=.int .i64 (idxG q xs 0):=by
 refine E1 Tryz.func103 rfl Tryz.ntmps103 (Wd.begin (fs:=[GlF p xs]) (by simpa using hx)) ?_;intro a S;refine J14 ?_;intro a S;refine c_forb1 S (fun(k:Nat) uu=>[(4,uu 4),(0,uu 5),(2,.int .i64 (k:Nat)),(0,uu 9),(0,uu 10),(0,uu 11),(0,uu 12),(0,uu 13),(0,uu 14),(0,uu 15),(0,uu 16),(0,uu 17),(0,uu 18)]) (fun(k:Nat)=>k≤n∧idxG q (xs.drop k) k=idxG q xs 0) (fun(k:Nat)=>n - k) (0) ?_ S.uu ?_ ?_;exact ⟨Nat.zero_le _,rfl⟩
 first | exact S | exact S.sub _ _
 clear S;rintro k uu a w ⟨hk,hrel⟩ S;refine J6 ?_;intro a S;refine kC S (fun h2=>?_) (fun h2=>?_);refine J11 ?_;intro a S;have hkl:k < n:=by simp at h2;omega
 have hK:KLt k n:=⟨hkl⟩;have hK2:KLt k xs.length:=⟨by omega⟩;rw[nthG_drop (show k < xs.length by omega),idxG]at hrel;refine J6 ?_;intro a S;refine sr S (hF (nthG xs k) (nthG_mem (by omega)) w S.wd.agree) ?_;rintro _ a w rfl S;refine kN (xtn ?_);refine kC S (fun h4=>?_) (fun h4=>?_);refine J12 ?_;intro a S;rw[if_pos h4]at hrel;refine end1 S (fun _=>?_);rw[hrel];refine J8 ?_;intro a S;rw[if_neg (by simpa using h4)]at hrel;rw[w6 ((k:Int)+1)]at S;exact ⟨k+1,S.uu,⟨hkl,by rw[←hrel];rfl⟩,S.sub _ _,by omega⟩;refine J11 ?_;intro a S;rw[List.drop_of_length_le (by simp at h2;omega)]at hrel;refine end1 S (fun _=>?_);rw[←hrel];rfl
theorem containsEv_c (F:Nat)[EntF Tryz.prog F](ca:List Value)(q:LEv→Bool)(xs:List LEv)(p:Option Addr)(n c:Nat)(w0:World)(hn:xs.length=n)(hl:n≤9223372036854775807)(hx:Fx w0 (GlF p xs))
  (hF:∀ x∈xs,∀ w,Agree (fun _=>False) w0 w→Ret Tryz.prog F (vEv x::ca) w (fun _=>False) fun v _=>v=.bool (q x)) :
  Ret Tryz.prog 59 [.slice p n c,.func (.func F) #[] ⟨ca⟩] w0 (fun _=>False) fun v _=>v=.bool (xs.any q):=by
 refine E1 Tryz.func59 rfl Tryz.ntmps59 (Wd.begin (fs:=[GlF p xs]) (by simpa using hx)) ?_;intro a S;refine J9 ?_;intro a S;refine sr S (indexEv_c F ca q xs p n c _ hn hl (S.gl0 p) fun x hx w' hw'=>hF x hx w' (S.wd.agree.trans hw')) ?_;rintro _ a w rfl S;refine J5 ?_;intro a S;refine end1 S (fun _=>?_);rw[idxG_any q xs 0 (by omega)]
structure LScr where
 area:Int
 ev:Sl LEv
abbrev cScr (s:LScr):List Value:=[.int .i64 s.area,.slice s.ev.p s.ev.xs.length s.ev.cap]
abbrev vScr (s:LScr):Value:=.agg ⟨cScr s⟩
instance encScr:Enc LScr:=⟨2,cScr,fun _=>rfl,fun x u hu=>by
 simp only[List.mem_cons,List.not_mem_nil,or_false]at hu;rcases hu with rfl | rfl <;> rfl⟩
instance layScr:Lay LScr:={ encScr with
 dflt:=⟨0,⟨none,0,[]⟩⟩
 inn:=fun w s=>Lay.inn w s.ev∧N64 s.area
 mono:=fun w w' _s h hx=>⟨Lay.mono w w' _ h hx.1,hx.2⟩ }
instance (priority:=850) hasi_sev {fs:List (World→Prop)}{s:LScr}[h:HasI fs s]:HasI fs s.ev:=⟨fun M w hf=>(h.of M w hf).imp fun _ h=>h.1⟩
def LScr.evs (s:LScr):List PEv:=s.ev.xs.map LEv.e
class FitS (s:LScr):Prop where
 len:s.ev.xs.length≤1000000
 evs:∀ x∈s.ev.xs,FitE x
def chkS (s:LScr):Int:=if checkE s.evs=true then 0 else 2
theorem scheck_c (s:LScr)(hfit:FitS s)(w0:World)(hf:Fx w0 (InF s)):Ret Tryz.prog 17 [vScr s] w0 (fun _=>False) fun v _=>v=.int .i64 (chkS s):=by
 refine E1 Tryz.func17 rfl Tryz.ntmps17 (Wd.begin (fs:=[InF s]) (by simpa using hf)) ?_;intro a S;refine kS (kR ?_);refine sa S ?_;clear S;intro b1 a w S;refine J13 ?_;clear S;intro a S;refine gcr S (.bool (s.ev.xs.any fun x=>wrongV x.e)) (fun _=>containsEv_c 60 [] (fun x=>wrongV x.e) s.ev.xs s.ev.p s.ev.xs.length s.ev.cap w rfl (by have:=hfit.len;omega) ((S.i0 s).imp fun _ h=>h.1.2.2) (fun x hx w' hw'=>wrong_c x (hfit.evs x hx) w' (((S.i0 s).later hw').imp fun _ h=>h.1.2.2.2 x hx))) ?_;clear S;rintro v15 a w hR1 hR2 S;obtain rfl:v15=.bool (s.ev.xs.any fun x=>wrongV x.e):=by
  cases hq:(!decide ((300:Int) < (s.ev.xs.length:Nat))) with
  | true=>exact hR1 hq
  | false=>exact hR2 hq
 clear hR1 hR2;refine J3 ?_;clear S;intro a S;refine kC S (fun h1=>?_) (fun h1=>?_);refine J7 ?_;clear S;intro a S;refine end1 S (fun _=>?_);have h2:checkE s.evs=false:=by
  simp only[Bool.or_eq_true,decide_eq_true_eq]at h1;simp only[checkE,LScr.evs,List.length_map,List.any_map,Bool.and_eq_false_iff,decide_eq_false_iff_not,Bool.not_eq_false'];rcases h1 with h1 | h1
  exact .inl (by omega);exact .inr h1
 rw[chkS,h2];rfl;refine J8 ?_;clear S;intro a S;refine end1 S (fun _=>?_);have h2:checkE s.evs=true:=by
  simp only[Bool.or_eq_false_iff,decide_eq_false_iff_not]at h1;simp only[checkE,LScr.evs,List.length_map,List.any_map,Bool.and_eq_true,decide_eq_true_eq,Bool.not_eq_true'];exact ⟨by omega,h1.2⟩
 rw[chkS,h2];rfl
theorem eq_setup (m n:Int)(w:World):(Go.Op.equalIn 10000 23 (.agg ⟨[.int .i64 m]⟩) (.agg ⟨[.int .i64 n]⟩)).run Tryz.prog w=.ok (decide (m=n)) w:=by
 have u3:=Tryz.underlying3;have a3:=Tryz.isAgg3;have z3:=Tryz.sizeOf3;have hS:Tryz.prog.underlying 23=some (.struct (Tryz.prog.fieldsOf 23)):=by kernel_rfl
 have hp:Tryz.prog.stoodInHeld 23=false:=by kernel_rfl
 rw[show (10000:Nat)=9999+1 from rfl,run_equalIn_agg w 9999 23 _ _ hS hp];simp only[Program.fieldsOf,Tryz.underlying23]
 go_simp
 by_cases h1:m=n <;> simp[h1]
theorem guard_setup:Tryz.prog.eqGuardType Tryz.prog.depth 23=false:=by kernel_rfl
section
variable {l:Cx}{bs:List Wk.Item}{fs:List (World→Prop)}{x y:Operand}{m n:Int}{t' ty:TypeId}
instance opEqSetup [Ev l x (.agg ⟨[.int .i64 m]⟩)][Ev l y (.agg ⟨[.int .i64 n]⟩)]:OpQ Tryz.prog (.binOp .eql 23 x y t') ty l bs fs (.bool (decide (m=n))):=⟨fun ρ w h _=>by
 simp[xop,execOp,h.ev (x:=x) (v:=.agg ⟨[.int .i64 m]⟩),h.ev (x:=y) (v:=.agg ⟨[.int .i64 n]⟩),Sem.run_bind,run_eqGuard_agg w .eql 23 x y _ _ guard_setup,run_eql_struct,eq_setup]⟩
end
def sameS (s t:LScr):Bool:=decide (s.area=t.area)&&decide (s.evs=t.evs)
theorem scsame_c (s t:LScr)(hfit:FitS s)(w0:World)(hs:Fx w0 (InF s))(ht:Fx w0 (InF t)):Ret Tryz.prog 13 [vScr s,vScr t] w0 (fun _=>False) fun v _=>v=.bool (sameS s t):=by
 refine E1 Tryz.func13 rfl Tryz.ntmps13 (Wd.begin (fs:=[InF s,InF t]) (by simp;exact ⟨hs,ht⟩)) ?_;intro a S;refine kS (kR ?_);refine sa S ?_;clear S;intro b2 a w S;refine sa S ?_;clear S;intro b3 a w S;refine J15 ?_;clear S;intro a S;refine gcr S (.bool (decide (s.evs=t.evs))) (fun _=>evsEq_c s.ev.xs t.ev.xs s.ev.p t.ev.p s.ev.cap t.ev.cap w hfit.len hfit.evs ((S.i0 s).imp fun _ h=>h.1.2.2) ((S.i0 t).imp fun _ h=>h.1.2.2)) ?_;clear S;rintro v15 a w hR1 hR2 S;obtain rfl:v15=.bool (decide (s.evs=t.evs)):=by
  cases hq:decide (s.area=t.area) with
  | true=>exact hR1 hq
  | false=>exact hR2 hq
 clear hR1 hR2;refine J5 ?_;clear S;intro a S;refine end1 S (fun _=>?_);rfl
section
variable {P:Program}{r:Option Nat}{ops:Array Oper}{Q:Exit→Act→World→Prop}{w0:World}{M0:Nat→Prop}{ds:List Deferred}{a:Act}{w:World}{l:List Value}{bs:List Wk.Item}{fs:List (World→Prop)}
 {d:Option Nat} {ty:TypeId} {pos:String} {af:Array Edge} {rest:List Oper} {f:Nat} {x:Operand} {ys:List Operand} {args:List Value} {ts:Array TypeId}
theorem boxF_gl {α:Type}[Lay α]{g:Nat}{T:TypeId}{cs:List Value}(xs:List α)(hc:cs=encL xs)(hi:∀ w,∀ x∈xs,Lay.inn w x)(w:World)(h:BoxF g T cs w):GlF (some ⟨g,0,none⟩) xs w:=by
 have hbx:w.heap[g]? = some (.cells cs.toArray T (0,0)):=h;exact ⟨⟨nofun,fun ad had j u hj=>by
  cases had;rw[show (⟨g,0,none⟩:Addr).add j=⟨g,j,none⟩ from add_lit g j];simp only[World.cell?,hbx];rw[←hc]at hj;simpa using hj⟩,hi w⟩
theorem St.boxGl {α:Type}[Lay α]{bs':List Wk.Item}(S:St w0 M0 ds a w l bs fs)(g:Nat)(xs:List α){T:TypeId}{cs:List Value}[hb:HasBox bs g T cs][hd:DropI bs (Wk.box g T cs) bs'](hc:cs=encL xs)(hi:∀ w,∀ x∈xs,Lay.inn w x):St w0 M0 ds a w l bs' (GlF (some ⟨g,0,none⟩) xs::fs):=by
 have S1:=S.boxToF g;have S2:=S1.add (Φ:=GlF (some ⟨g,0,none⟩) xs) ((S1.wd.facts (BoxF g T cs) (List.mem_cons_self ..)).imp (boxF_gl xs hc hi));exact ⟨S2.slots,S2.defers,S2.wd.sub (.refl _) (.cons_cons _ (.cons _ (.refl _)))⟩
theorem swr {t:List UInt8}{l':Value→List Value}{bs':Value→Option Addr→Nat→List Wk.Item}(b:Nat)(u:Value)(p:Option Addr)(c:Nat)(s:List UInt8)[EntF P f][CallTo ⟨[],l⟩ x ys f args][hp:∀ v,PutO l d v (l' v)][hrep:∀ u' p' c',ReplI bs (wI b u p c s) (wI b u' p' c' t) (bs' u' p' c')](S:St w0 M0 ds a w l bs fs)
  (hc:Ret P f args w (wI b u p c s).foot fun _ w'=>WrR b (wI b u p c s).foot w t w') (K:∀ v u' p' c' a w',AdOk u' b→St w0 M0 ds a w' (l' v) (bs' u' p' c') fs→WL P r ops Q rest a w') :
  WL P r ops Q (⟨d,.call { callee:=.value x,args:=ys.toArray,argTypes:=ts },ty,pos,af,none⟩::rest) a w:=
 sit (wI b u p c s) S hc rfl fun v a w' ⟨u',p',c',hu,hh,hn⟩ hS=>K v u' p' c' a w' hu (hS (wI b u' p' c' t) hh hn)
end
instance sIt {b:Nat}{u:Value}{p:Option Addr}{c:Nat}{s:List UInt8}{bs:List Wk.Item} : HasIt (wI b u p c s::bs) (wI b u p c s):=⟨List.mem_cons_self ..⟩
def numsB (l:List Int):List UInt8:=l.flatMap fun n=>32::Lib.itoa n
theorem dec_le:∀ (k u:Nat),1≤k→u < 10 ^ k→(Lib.decDigits u).length≤k
 | 0,_,h,_=>by omega
 | k+1,u,_,hu=>by
  rw[Lib.decDigits];split;simp
  rename_i h
  have h1:1≤k:=by
   rcases Nat.eq_zero_or_pos k with rfl | h2
   simp at hu;omega;exact h2
  rw[List.length_append];have:=dec_le k (u / 10) h1 (by rw[Nat.pow_succ]at hu;omega);simp;omega
theorem itoa_le {n:Int}(h:N64 n):(Lib.itoa n).length≤20:=by
 obtain ⟨h1,h2⟩:=h;rw[Lib.itoa];split;have:=dec_le 19 n.natAbs (by omega) (by omega);simp;omega;have:=dec_le 19 n.toNat (by omega) (by omega);omega
theorem wnums_c (b:Nat)(u:Value)[AdOk u b](p:Option Addr)(c:Nat)(s:List UInt8)(xs:List Int)(q:Option Addr)(e:Nat)(hr:∀ n∈xs,N64 n)(hl:s.length+30*xs.length≤500000000000)(w0:World)(hb:(wI b u p c s).holds w0)(ht:Stable (wI b u p c s).foot w0 TabF)(hf:Stable (wI b u p c s).foot w0 (GlF q xs)) :
  Ret Tryz.prog 53 [pB b,.slice q xs.length e] w0 (wI b u p c s).foot fun _ w'=>WrR b (wI b u p c s).foot w0 (s++numsB xs) w':=by
 refine E1 Tryz.func53 rfl Tryz.ntmps53 (Wd.itLent (fs:=[TabF,GlF q xs]) hb (by simp;exact ⟨ht,hf⟩)) ?_;intro a S;refine J8 ?_;intro a S;refine c_fore5 S (fun(k:Nat) (u2:Value) (p2:Option Addr) (c2:Nat) (t:List UInt8) uu=>[(5,uu 5),(2,.int .i64 (k:Nat)),(0,uu 9),(0,uu 10),(0,uu 11),(0,uu 12),(0,uu 13),(0,uu 14),(0,uu 15),(0,uu 16),(0,uu 17),(0,uu 18),(0,uu 19)]) (fun(k:Nat) (u2:Value) (p2:Option Addr) (c2:Nat) (t:List UInt8)=>[wI b u2 p2 c2 t]) (fun(k:Nat) (u2:Value) (p2:Option Addr) (c2:Nat) (t:List UInt8)=>[TabF,GlF q xs]) (fun(k:Nat) (u2:Value) (p2:Option Addr) (c2:Nat) (t:List UInt8)=>k≤xs.length∧t=s++numsB (xs.take k)∧AdOk u2 b∧t.length≤s.length+30*k) (fun(k:Nat) (u2:Value) (p2:Option Addr) (c2:Nat) (t:List UInt8)=>xs.length - k) (0) (u) (p) (c) (s) ?_ S.uu ?_ ?_;exact ⟨Nat.zero_le _,by simp[numsB],inferInstance,Nat.le_refl _⟩
 first | exact S | exact S.sub _ _
 clear S;rintro k u2 p2 c2 t uu a w ⟨hk,ht2,hu2,hl2⟩ S;refine J6 ?_;intro a S;refine kC S (fun h1=>?_) (fun h1=>?_);refine kK (xtn (kS (kB (kS ?_))));have hkl:k < xs.length:=by simp at h1;omega
 have hK:KLt k xs.length:=⟨hkl⟩;have hN:=hr _ (nthG_mem hkl);have hI:I64 (nthG xs k):=⟨hN.1,hN.2⟩;have hil:=itoa_le hN;have hLC:LeC (([32]:List UInt8).length+(Lib.itoa (nthG xs k)).length) 4611686018427387904:=⟨by simp;omega⟩;refine J6 ?_;intro a S;refine c_drawE [T9 0,T9 1,T9 2,T9 3,F9 4,T9 5,F9 6] [] S ?_;intro w S;(iterate 4 (refine dq S ?_;intro a S));refine dl (sc S ?_);intro a w S;refine de S ?_;refine dq S ?_;intro a S;refine dl ?_;refine swr b u2 p2 c2 t S (wstr_c b u2 p2 c2 t (32::Lib.itoa (nthG xs k)) (by simp;omega) _ (S.it (wI b u2 p2 c2 t))) ?_;intro v18 u3 p3 c3 a w hu3 S;refine de S ?_;refine dn (xbn (xtn (kR ?_)));(iterate 2 (refine sq S ?_;intro a S));refine kN (xtn ?_);rw[w6 ((k:Int)+1)]at S;refine ⟨k+1,u3,p3,c3,t++32::Lib.itoa (nthG xs k),S.uu,⟨hkl,?_,hu3,by simp;omega⟩,S.sub _ _,by omega⟩;rw[ht2,nthG_take hkl,List.append_assoc];simp[numsB];refine kE (xte (xte (xbe ?_)));have hke:k=xs.length:=by simp at h1;omega
 rw[hke,List.take_length]at ht2;have hh:=S.it (wI b u2 p2 c2 t);have hn:=S.wd.own (wI b u2 p2 c2 t) (List.mem_cons_self ..) rfl;rw[ht2]at hh hn;refine end0 S (fun _=>⟨u2,p2,c2,hu2,hh,hn⟩)
abbrev digL:List UInt8:=[48,49,50,51,52,53,54,55,56,57,97,98,99,100,101,102]
theorem digL_at:∀ k:Fin 16,nthG digL k.val=dig16 k.val:=by decide
theorem nib15 (c:UInt8):iand .u8 (c.toNat:Int) 15=((c.toNat % 16:Nat):Int):=by
 have h:∀ n:Nat,n < 256→iand .u8 (n:Int) 15=((n % 16:Nat):Int):=by decide +kernel
 exact h _ c.toNat_lt
theorem wdigits_c (b:Nat)(u:Value)[hu:AdOk u b](p:Option Addr)(c:Nat)(s:List UInt8)(x:UInt8)(hl:s.length+2≤500000000000)(w0:World)(hb:(wI b u p c s).holds w0) :
  Ret Tryz.prog 109 [pB b,.int .u8 x.toNat] w0 (wI b u p c s).foot fun _ w'=>WrR b (wI b u p c s).foot w0 (s++hexB x) w':=by
 have hx:=x.toNat_lt;have hK1:KLt (x.toNat / 16) digL.length:=⟨by simp;omega⟩;have hK2:KLt (x.toNat % 16) digL.length:=⟨by simp;omega⟩;refine E1 Tryz.func109 rfl Tryz.ntmps109 (Wd.itLent (fs:=[]) hb (by simp)) ?_;intro a S;refine kS ?_;refine c_drawE [T9 0,T9 1,T9 2,T9 3,T9 4,T9 5,F9 6] [] S ?_;intro w S;refine J5 ?_;intro a S;rw[show ((x.toNat:Nat):Int).fdiv (2 ^ min 4 IntKind.u8.bits)=((x.toNat / 16:Nat):Int) from by
  show ((x.toNat:Nat):Int).fdiv 16=_
  rw[Int.fdiv_eq_ediv_of_nonneg _ (by omega)];omega]at S
 refine J1 ?_;intro a S;rw[digL_at ⟨x.toNat / 16,by omega⟩]at S;refine dl ?_;refine swr b u p c s S (wbyte_c b u p c s (dig16 (x.toNat / 16)) (by omega) _ (S.it (wI b u p c s))) ?_;intro v10 u2 p2 c2 a w hu2 S;refine de S ?_;refine dn (xtn ?_);refine c_drawE [T9 0,T9 1,T9 2,T9 3,T9 4,T9 5,F9 6] [] S ?_;intro w S;refine J5 ?_;intro a S;rw[nib15]at S;refine J1 ?_;intro a S;rw[digL_at ⟨x.toNat % 16,by omega⟩]at S;refine dl ?_;refine swr b u2 p2 c2 (s++[dig16 (x.toNat / 16)]) S (wbyte_c b u2 p2 c2 _ (dig16 (x.toNat % 16)) (by simp;omega) _ (S.it (wI b u2 p2 c2 (s++[dig16 (x.toNat / 16)])))) ?_;intro v17 u3 p3 c3 a w hu3 S;refine de S ?_;refine dn ?_;have hh:=S.it (wI b u3 p3 c3 (s++[dig16 (x.toNat / 16)]++[dig16 (x.toNat % 16)]));have hn:=S.wd.own (wI b u3 p3 c3 (s++[dig16 (x.toNat / 16)]++[dig16 (x.toNat % 16)])) (List.mem_cons_self ..) rfl;rw[List.append_assoc]at hh hn;refine end0 S (fun _=>⟨u3,p3,c3,hu3,hh,hn⟩)
def namesB (l:List (List UInt8)):List UInt8:=l.flatMap fun n=>32::quoteE n
theorem u8_eq {c d:UInt8} : ((c.toNat:Nat):Int)=((d.toNat:Nat):Int)↔c=d:=by
 rw[←UInt8.toNat_inj];omega
theorem quoteC_le (c:UInt8):(quoteC c).length≤4:=by
 unfold quoteC
 repeat' split
 all_goals simp[hexB]
theorem wnames_c (b:Nat)(u:Value)[hu:AdOk u b](p:Option Addr)(c:Nat)(s:List UInt8)(xs:List (List UInt8))(q:Option Addr)(e:Nat)(hr:∀ n∈xs,n.length≤1000000)(hl:s.length+5000000*xs.length≤500000000000)(w0:World)(hb:(wI b u p c s).holds w0)(hf:Stable (wI b u p c s).foot w0 (GlF q xs)) :
  Ret Tryz.prog 99 [pB b,.slice q xs.length e] w0 (wI b u p c s).foot fun _ w'=>WrR b (wI b u p c s).foot w0 (s++namesB xs) w':=by
 refine E1 Tryz.func99 rfl Tryz.ntmps99 (Wd.itLent (fs:=[GlF q xs]) hb (by simpa using hf)) ?_;intro a S;refine J8 ?_;intro a S;refine c_fore5 S (fun(k:Nat) (u2:Value) (p2:Option Addr) (c2:Nat) (t:List UInt8) uu=>[(5,uu 5),(1,uu 7),(2,.int .i64 (k:Nat)),(0,uu 11),(0,uu 12),(0,uu 13),(0,uu 14),(0,uu 15),(0,uu 16),(0,uu 17),(0,uu 18),(0,uu 19),(0,uu 20),(0,uu 21),(0,uu 22),(0,uu 23),(0,uu 24),(0,uu 25),(0,uu 26),(0,uu 27),(0,uu 28),(0,uu 29),(0,uu 30),(0,uu 31),(0,uu 32),(0,uu 33),(0,uu 34),(0,uu 35),(0,uu 36),(0,uu 37),(0,uu 38),(0,uu 39),(0,uu 40),(0,uu 41),(0,uu 42),(0,uu 43),(0,uu 44),(0,uu 45),(0,uu 46),(0,uu 47),(0,uu 48),(0,uu 49),(0,uu 50),(0,uu 51),(0,uu 52),(0,uu 53),(0,uu 54),(0,uu 55),(0,uu 56),(0,uu 57),(0,uu 58),(0,uu 59),(0,uu 60),(0,uu 61),(0,uu 62),(0,uu 63),(0,uu 64),(0,uu 65)]) (fun(k:Nat) (u2:Value) (p2:Option Addr) (c2:Nat) (t:List UInt8)=>[wI b u2 p2 c2 t]) (fun(k:Nat) (u2:Value) (p2:Option Addr) (c2:Nat) (t:List UInt8)=>[GlF q xs]) (fun(k:Nat) (u2:Value) (p2:Option Addr) (c2:Nat) (t:List UInt8)=>k≤xs.length∧t=s++namesB (xs.take k)∧AdOk u2 b∧t.length≤s.length+5000000*k) (fun(k:Nat) (u2:Value) (p2:Option Addr) (c2:Nat) (t:List UInt8)=>xs.length - k) (0) (u) (p) (c) (s) ?_ S.uu ?_ ?_;exact ⟨Nat.zero_le _,by simp[namesB],inferInstance,Nat.le_refl _⟩
 first | exact S | exact S.sub _ _
 clear S;rintro k u2 p2 c2 t uu a w ⟨hk,ht2,hu2,hl2⟩ S;refine J6 ?_;intro a S;refine kC S (fun h1=>?_) (fun h1=>?_);refine kK (xtn (kS (kB (kS ?_))));have hkl:k < xs.length:=by simp at h1;omega
 have hK:KLt k xs.length:=⟨hkl⟩;have hN:=hr _ (nthG_mem hkl);refine J11 ?_;intro a S;refine swr b u2 p2 c2 t S (wstr_c b u2 p2 c2 t [32,34] (by simp;omega) _ (S.it (wI b u2 p2 c2 t))) ?_;intro v17 u3 p3 c3 a w hu3 S;refine J6 ?_;intro a S;refine scvb S ?_;intro b19 c19 a w S;obtain ⟨q19,hq19⟩:∃ q19:Option Addr,q19=some ⟨b19,0,none⟩:=⟨_,rfl⟩;rw[←hq19]at S;refine J5 ?_;intro a S;refine c_fore5 S (fun(j:Nat) (u4:Value) (p4:Option Addr) (c4:Nat) (t4:List UInt8) uu=>[(7,uu 7),(13,.int .i64 (j:Nat)),(0,uu 22),(0,uu 23),(0,uu 24),(0,uu 25),(0,uu 26),(0,uu 27),(0,uu 28),(0,uu 29),(0,uu 30),(0,uu 31),(0,uu 32),(0,uu 33),(0,uu 34),(0,uu 35),(0,uu 36),(0,uu 37),(0,uu 38),(0,uu 39),(0,uu 40),(0,uu 41),(0,uu 42),(0,uu 43),(0,uu 44),(0,uu 45),(0,uu 46),(0,uu 47),(0,uu 48),(0,uu 49),(0,uu 50),(0,uu 51),(0,uu 52),(0,uu 53),(0,uu 54),(0,uu 55),(0,uu 56),(0,uu 57),(0,uu 58),(0,uu 59),(0,uu 60)]) (fun(j:Nat) (u4:Value) (p4:Option Addr) (c4:Nat) (t4:List UInt8)=>[wI b u4 p4 c4 t4]) (fun(j:Nat) (u4:Value) (p4:Option Addr) (c4:Nat) (t4:List UInt8)=>[GlF q19 (nthG xs k),GlF q xs]) (fun(j:Nat) (u4:Value) (p4:Option Addr) (c4:Nat) (t4:List UInt8)=>j≤(nthG xs k).length∧t4=t++[32,34]++((nthG xs k).take j).flatMap quoteC∧AdOk u4 b∧t4.length≤t.length+2+4*j) (fun(j:Nat) (u4:Value) (p4:Option Addr) (c4:Nat) (t4:List UInt8)=>(nthG xs k).length - j) (0) (u3) (p3) (c3) (t++[32,34]) ?_ S.uu ?_ ?_;exact ⟨Nat.zero_le _,by simp,hu3,by simp⟩
 first | exact S | exact S.sub _ _
 clear S;rintro j u4 p4 c4 t4 uu a w ⟨hj,ht4,hu4,hl4⟩ S;refine J6 ?_;intro a S;refine kC S (fun h5=>?_) (fun h5=>?_);refine kK (xtn (kS (kB (kS ?_))));have hjl:j < (nthG xs k).length:=by simp at h5;omega
 have hKj:KLt j (nthG xs k).length:=⟨hjl⟩;have hstep:((nthG xs k).take (j+1)).flatMap quoteC=((nthG xs k).take j).flatMap quoteC++quoteC (nthG (nthG xs k) j):=by
  rw[nthG_take hjl,List.flatMap_append];simp
 refine J18 ?_;intro a S;refine kC S (fun h8=>?_) (fun h8=>?_);refine J5 ?_;intro a S;refine swr b u4 p4 c4 t4 S (wbyte_c b u4 p4 c4 t4 92 (by omega) _ (S.it (wI b u4 p4 c4 t4))) ?_;intro v40 u5 p5 c5 a w hu5 S;refine J7 ?_;intro a S;refine swr b u5 p5 c5 (t4++[92]) S (wbyte_c b u5 p5 c5 (t4++[92]) (nthG (nthG xs k) j) (by simp;omega) _ (S.it (wI b u5 p5 c5 (t4++[92])))) ?_;intro v45 u6 p6 c6 a w hu6 S;refine J9 ?_;intro a S;rw[w6 ((j:Int)+1)]at S;have hq:(nthG (nthG xs k) j)=34∨(nthG (nthG xs k) j)=92:=by
  simp only[Bool.or_eq_true,decide_eq_true_eq]at h8;exact h8.imp (fun h=>u8_eq.1 h) (fun h=>u8_eq.1 h)
 refine ⟨j+1,u6,p6,c6,t4++[92]++[(nthG (nthG xs k) j)],S.uu,⟨hjl,?_,hu6,by simp;omega⟩,S.sub _ _,by omega⟩;rw[hstep,quoteC,if_pos hq,ht4];simp;refine J11 ?_;intro a S;refine kC S (fun h11=>?_) (fun h11=>?_);refine J5 ?_;intro a S;refine swr b u4 p4 c4 t4 S (wstr_c b u4 p4 c4 t4 [92,120] (by simp;omega) _ (S.it (wI b u4 p4 c4 t4))) ?_;intro v56 u5 p5 c5 a w hu5 S;refine J5 ?_;intro a S;refine swr b u5 p5 c5 (t4++[92,120]) S (wdigits_c b u5 p5 c5 (t4++[92,120]) (nthG (nthG xs k) j) (by simp;omega) _ (S.it (wI b u5 p5 c5 (t4++[92,120])))) ?_;intro v59 u6 p6 c6 a w hu6 S;refine J9 ?_;intro a S;rw[w6 ((j:Int)+1)]at S;have hq:¬((nthG (nthG xs k) j)=34∨(nthG (nthG xs k) j)=92):=by
  simp only[Bool.or_eq_false_iff,decide_eq_false_iff_not]at h8;exact fun h=>h.elim (fun h=>h8.1 (u8_eq.2 h)) (fun h=>h8.2 (u8_eq.2 h))
 have hq2:(nthG (nthG xs k) j).toNat < 32∨126 < (nthG (nthG xs k) j).toNat:=by
  simp only[Bool.or_eq_true,decide_eq_true_eq]at h11;omega
 refine ⟨j+1,u6,p6,c6,t4++[92,120]++hexB (nthG (nthG xs k) j),S.uu,⟨hjl,?_,hu6,by simp[hexB];omega⟩,S.sub _ _,by omega⟩;rw[hstep,quoteC,if_neg hq,if_pos hq2,ht4];simp;refine J5 ?_;intro a S;refine swr b u4 p4 c4 t4 S (wbyte_c b u4 p4 c4 t4 (nthG (nthG xs k) j) (by omega) _ (S.it (wI b u4 p4 c4 t4))) ?_;intro v29 u5 p5 c5 a w hu5 S;refine J9 ?_;intro a S;rw[w6 ((j:Int)+1)]at S;have hq:¬((nthG (nthG xs k) j)=34∨(nthG (nthG xs k) j)=92):=by
  simp only[Bool.or_eq_false_iff,decide_eq_false_iff_not]at h8;exact fun h=>h.elim (fun h=>h8.1 (u8_eq.2 h)) (fun h=>h8.2 (u8_eq.2 h))
 have hq2:¬((nthG (nthG xs k) j).toNat < 32∨126 < (nthG (nthG xs k) j).toNat):=by
  simp only[Bool.or_eq_false_iff,decide_eq_false_iff_not]at h11;omega
 refine ⟨j+1,u5,p5,c5,t4++[(nthG (nthG xs k) j)],S.uu,⟨hjl,?_,hu5,by simp;omega⟩,S.sub _ _,by omega⟩;rw[hstep,quoteC,if_neg hq,if_neg hq2,ht4];simp;refine J9 ?_;intro a S;refine swr b u4 p4 c4 t4 S (wbyte_c b u4 p4 c4 t4 34 (by omega) _ (S.it (wI b u4 p4 c4 t4))) ?_;intro v64 u5 p5 c5 a w hu5 S;refine J8 ?_;intro a S;have hje:j=(nthG xs k).length:=by simp at h5;omega
 rw[hje,List.take_length]at ht4;rw[w6 ((k:Int)+1)]at S;refine ⟨k+1,u5,p5,c5,t4++[34],S.uu,⟨hkl,?_,hu5,by simp;omega⟩,S.sub _ _,by omega⟩;rw[ht4,ht2,nthG_take hkl];simp[namesB,quoteE];refine kE (xte (xte (xbe ?_)));have hke:k=xs.length:=by simp at h1;omega
 rw[hke,List.take_length]at ht2;have hh:=S.it (wI b u2 p2 c2 t);have hn:=S.wd.own (wI b u2 p2 c2 t) (List.mem_cons_self ..) rfl;rw[ht2]at hh hn;refine end0 S (fun _=>⟨u2,p2,c2,hu2,hh,hn⟩)
theorem name_le (t:Term):(nameF t).length≤84000:=by
 unfold nameF;split;simp
 rename_i h;exact bytes_small h
theorem name_nil {t:Term}(h:checkF t≠0):nameF t=[]:=by
 by_cases h2:sizeF t=0
 rw[nameF,if_pos h2];exact absurd (by rw[checkF,if_neg h2]) h
theorem wterm_c (b:Nat)(u:Value)[hu:AdOk u b](p:Option Addr)(c:Nat)(s:List UInt8)(t:LTerm)(hl:s.length+200000≤500000000000)(w0:World)(hb:(wI b u p c s).holds w0)(hf:Stable (wI b u p c s).foot w0 (LtF t)) :
  Ret Tryz.prog 64 [pB b,vL t] w0 (wI b u p c s).foot fun _ w'=>WrR b (wI b u p c s).foot w0 (s++32::encT t.t) w':=by
 have hnl:=name_le t.t;refine E1 Tryz.func64 rfl Tryz.ntmps64 (Wd.itLent (fs:=[LtF t]) hb (by simpa using hf)) ?_;intro a S;refine kS (kR ?_);refine sa S ?_;intro b3 a w S;refine J7 ?_;intro a S;refine swr b u p c s S (wbyte_c b u p c s 32 (by omega) _ (S.it (wI b u p c s))) ?_;intro v11 u1 p1 c1 a w hu1 S;refine J5 ?_;intro a S;refine srn S (encode_c t _ (S.t0 t)) ?_;rintro _ a w ⟨p12,c12,rfl,hown,hnew⟩ hS -;have S:=hS hown hnew;clear hS hown hnew;replace S:=S.rowToGl p12 (nameF t.t) (e:=5) (sz:=1) (n:=(nameF t.t).length) (c:=c12) (fun _ _ _ _=>trivial);refine J7 ?_;intro a S;refine c_mrge4 S (fun(u3:Value) (p3:Option Addr) (c3:Nat) (t3:List UInt8) uu=>[(17,uu 17),(0,uu 18),(0,uu 19),(0,uu 20),(0,uu 21),(0,uu 22)]) (fun(u3:Value) (p3:Option Addr) (c3:Nat) (t3:List UInt8)=>[Wk.box b3 42 t.cells,wI b u3 p3 c3 t3]) (fun(u3:Value) (p3:Option Addr) (c3:Nat) (t3:List UInt8)=>[GlF p12 (nameF t.t),LtF t]) (fun(u3:Value) (p3:Option Addr) (c3:Nat) (t3:List UInt8)=>AdOk u3 b∧t3=s++[32]++(if checkF t.t=0 then [] else [45])) ?_ ?_;refine J6 ?_;intro a S;refine kC S (fun h3=>?_) (fun h3=>?_);refine J4 ?_;intro a S;refine swr b u1 p1 c1 (s++[32]) S (wstr_c b u1 p1 c1 (s++[32]) [45] (by simp;omega) _ (S.it (wI b u1 p1 c1 (s++[32])))) ?_;intro v22 u2 p2 c2 a w hu2 S;refine kN (xtn ?_);have hc:checkF t.t≠0:=by simpa using h3
 exact ⟨u2,p2,c2,s++[32]++[45],S.uu,⟨hu2,by rw[if_neg hc]⟩,S.sub _ _⟩;refine kK (xtn ?_);have hc:checkF t.t=0:=by simpa using h3
 exact ⟨u1,p1,c1,s++[32],S.uu,⟨hu1,by rw[if_pos hc,List.append_nil]⟩,S.sub _ _⟩;clear S;rintro u3 p3 c3 t3 uu a w ⟨hu3,ht3⟩ S;refine J8 ?_;intro a S;refine c_fore5 S (fun(j:Nat) (u4:Value) (p4:Option Addr) (c4:Nat) (t4:List UInt8) uu=>[(7,uu 7),(17,.int .i64 (j:Nat)),(0,uu 26),(0,uu 27),(0,uu 28),(0,uu 29),(0,uu 30),(0,uu 31),(0,uu 32)]) (fun(j:Nat) (u4:Value) (p4:Option Addr) (c4:Nat) (t4:List UInt8)=>[Wk.box b3 42 t.cells,wI b u4 p4 c4 t4]) (fun(j:Nat) (u4:Value) (p4:Option Addr) (c4:Nat) (t4:List UInt8)=>[GlF p12 (nameF t.t),LtF t]) (fun(j:Nat) (u4:Value) (p4:Option Addr) (c4:Nat) (t4:List UInt8)=>j≤(nameF t.t).length∧t4=t3++((nameF t.t).take j).flatMap hexB∧AdOk u4 b∧t4.length≤t3.length+2*j) (fun(j:Nat) (u4:Value) (p4:Option Addr) (c4:Nat) (t4:List UInt8)=>(nameF t.t).length - j) (0) (u3) (p3) (c3) (t3) ?_ S.uu ?_ ?_;exact ⟨Nat.zero_le _,by simp,hu3,by simp⟩
 first | exact S | exact S.sub _ _
 clear S;rintro j u4 p4 c4 t4 uu a w ⟨hj,ht4,hu4,hl4⟩ S;refine J6 ?_;intro a S;refine kC S (fun h6=>?_) (fun h6=>?_);refine kK (xtn (kS (kB (kS ?_))));have hjl:j < (nameF t.t).length:=by simp at h6;omega
 have hKj:KLt j (nameF t.t).length:=⟨hjl⟩;have hl3:t3.length≤s.length+2:=by
  rw[ht3];split <;> simp
 refine J9 ?_;intro a S;refine swr b u4 p4 c4 t4 S (wdigits_c b u4 p4 c4 t4 (nthG (nameF t.t) j) (by omega) _ (S.it (wI b u4 p4 c4 t4))) ?_;intro v31 u5 p5 c5 a w hu5 S;refine J8 ?_;intro a S;rw[w6 ((j:Int)+1)]at S;refine ⟨j+1,u5,p5,c5,t4++hexB (nthG (nameF t.t) j),S.uu,⟨hjl,?_,hu5,by simp[hexB];omega⟩,S.sub _ _,by omega⟩;rw[nthG_take hjl,List.flatMap_append,ht4];simp;refine kE (xte (xte (xbe ?_)));have hje:j=(nameF t.t).length:=by simp at h6;omega
 have hfin:t4=s++32::encT t.t:=by
  rw[ht4,ht3,hje,List.take_length,encT]
  by_cases hc:checkF t.t=0
  rw[if_pos hc,if_pos hc];simp;rw[if_neg hc,if_neg hc,name_nil hc];simp
 have hh:=S.it (wI b u4 p4 c4 t4);have hn:=S.wd.own (wI b u4 p4 c4 t4) (by simp) rfl;rw[hfin]at hh hn;refine end0 S (fun _=>⟨u4,p4,c4,hu4,hh,hn⟩)
theorem words_c (M:Nat→Prop)(w0:World)(hM:∀ k,M k→k < w0.heap.size):Ret Tryz.prog 97 [] w0 (fun _=>False) fun v w'=>∃ p c,v=.slice p wordsE.length c∧Stable M w' (GlF p wordsE):=by
 refine E1 Tryz.func97 rfl Tryz.ntmps97 (Wd.beginM (M:=M) (fs:=[]) hM (by simp)) ?_;intro a S;refine J7 ?_;intro a S;refine sn S ?_;intro b1 a w S;refine J4 ?_;intro a S;replace S:=St.boxGl S b1 wordsE rfl (fun _ _ _=>trivial);have hlat:=S.laterFact (M:=M) (Φ:=GlF (some ⟨b1,0,none⟩) wordsE) (by simp);refine end1 S (fun _=>⟨_,_,rfl,hlat⟩)
theorem nums_off (x:LEv):(offE x.kind).map (atI (cEv x))=numsE x.e:=by
 unfold offE numsE;rw[show x.e.kind=x.kind from rfl]
 by_cases h1:x.kind=1
 simp only[h1,if_true];rfl
 by_cases h3:x.kind=3
 simp only[h3];rfl
 by_cases h4:x.kind=4
 simp only[h4];rfl
 by_cases h5:x.kind=5
 simp only[h5];rfl
 by_cases h67:x.kind=6∨x.kind=7
 simp only[if_neg h1,if_neg h3,if_neg h4,if_neg h5,if_pos h67];rfl;simp only[if_neg h1,if_neg h3,if_neg h4,if_neg h5,if_neg h67];rfl
theorem nums_rng {x:LEv}(h:x.rng):∀ n∈numsE x.e,N64 n:=by
 obtain ⟨h0,h1,h2,h3,h4,h5,h6,h7⟩:=h;intro n hn;unfold numsE at hn;rw[show x.e.kind=x.kind from rfl]at hn
 repeat' split at hn
 all_goals simp only[List.mem_cons,List.not_mem_nil,or_false]at hn
 ·rcases hn with rfl | rfl | rfl | rfl <;> assumption
 ·subst hn;exact h7
 ·subst hn;exact h5
 ·rcases hn with rfl | rfl <;> assumption
 ·subst hn;exact h6
def restE (x:PEv):List UInt8:=(if x.kind=1 then [Lib.itoa (if x.ow then 1 else 0),quoteE x.oname,encT x.body] else if x.kind=2 then [quoteE x.name,encT x.term] else if x.kind=3 then [quoteE x.name,quoteE x.src] else if x.kind=6 then [bitsE x.keep] else []).flatMap fun p=>32::p
theorem lineE_eq (x:PEv):lineE x=wordE x.kind++numsB (numsE x)++restE x++[10]:=by
 rw[lineE,lineB,partsE,List.flatMap_append,restE,numsB,List.flatMap_map];simp
theorem word_le {k:Int}(h:1≤k∧k≤7):(wordE k).length≤7:=by
 rcases kind_cases h with rfl | rfl | rfl | rfl | rfl | rfl | rfl <;> decide
theorem quote_len (x:List UInt8):(quoteE x).length≤2+4*x.length:=by
 have h:(x.flatMap quoteC).length≤4*x.length:=by
  induction x with
  | nil=>simp
  | cons c x ih=>
   have:=quoteC_le c;rw[List.flatMap_cons,List.length_append,qqA];omega
 rw[quoteE];simp only[qqA,List.length_append,qqB];omega
theorem names1_le (x:List UInt8):(namesB [x]).length≤3+4*x.length:=by
 have:=quote_len x;simp[namesB];omega
theorem names2_le (x y:List UInt8):(namesB [x,y]).length≤6+4*x.length+4*y.length:=by
 have:=quote_len x;have:=quote_len y;simp[namesB];omega
theorem encT_le (t:Term):(encT t).length≤168001:=by
 unfold encT;split;rw[hex_len];have:=name_le t;omega;simp
theorem numsB1_le {n:Int}(h:N64 n):(numsB [n]).length≤21:=by
 have:=itoa_le h;simp[numsB];omega
set_option maxHeartbeats 1000000 in
theorem wevent_c (b:Nat)(u:Value)[hu:AdOk u b](p:Option Addr)(c:Nat)(s:List UInt8)(x:LEv)(hk:1≤x.kind∧x.kind≤7)(h1n:x.name.length≤1000000)(h2n:x.src.length≤1000000)(h3n:x.oname.length≤1000000)(hfit:FitE x)(hl:s.length+50000000≤400000000000)
  (w0:World) (hb:(wI b u p c s).holds w0) (ht:Stable (wI b u p c s).foot w0 TabF) (hf:Stable (wI b u p c s).foot w0 (InF x)) :
  Ret Tryz.prog 55 [pB b,vEv x] w0 (wI b u p c s).foot fun _ w'=>WrR b (wI b u p c s).foot w0 (s++lineE x.e) w':=by
 have hwl:=word_le hk;have hkp:=hfit.keep;have hrg:=(hf.now).2.2.2;have hoffl:=offE_len x.kind;have hIN:IsNat x.kind x.kind.toNat:=⟨by omega⟩;have hKW:KLt x.kind.toNat wordsE.length:=⟨by show x.kind.toNat < 8;omega⟩;refine E1 Tryz.func55 rfl Tryz.ntmps55 (Wd.itLent (fs:=[TabF,InF x]) hb (by simp;exact ⟨ht,hf⟩)) ?_;intro a S;refine kS (kR ?_);refine sa S ?_;clear S;intro b3 a w S;refine kN (xtn (kS ?_));refine c_drwe3 (.q 0 (.q 1 (.q 2 (.q 4 (.q 5 (.l 3 (.l 6 (.l 7 (.l 8 (.e)))))))))) S (fun(u1:Value) (p1:Option Addr) (c1:Nat) uu=>[(10,uu 10),(0,uu 11),(0,uu 12),(0,uu 13),(0,uu 14),(0,uu 15),(0,uu 16),(0,uu 17),(0,uu 18)]) [Wk.box b3 47 (cEv x)] (fun(u1:Value) (p1:Option Addr) (c1:Nat)=>[Wk.box b3 47 (cEv x),wI b u1 p1 c1 (s++wordE x.kind)]) (fun(u1:Value) (p1:Option Addr) (c1:Nat)=>[TabF,InF x]) (fun(u1:Value) (p1:Option Addr) (c1:Nat)=>AdOk u1 b) ?_ ?_;intro w S;(iterate 5 (refine tq S ?_;clear S;intro a S));refine tl ?_;refine sr S (words_c _ w (foots_lt S)) ?_;clear S;rintro _ a w ⟨p13,c13,rfl,hf13⟩ S;replace S:=S.add hf13;refine te S ?_;refine tl (sq S ?_);clear S;intro a S;refine te S ?_;refine tl (sq S ?_);clear S;intro a S;refine te S ?_;refine tl ?_;refine swr b u p c s S (wstr_c b u p c s (wordE x.kind) (by omega) _ (S.it (wI b u p c s))) ?_;clear S;intro v18 u0 p0 c0 a w hu0 S;refine te S ?_;refine tn ?_;exact ⟨u0,p0,c0,S.uu,hu0,S.sub _ _⟩;clear S;rintro u1 p1 c1 uu a w hu1 S;refine xtn (kS (kS (kR ?_)));refine sr S (evf_c b3 (cEv x) x.kind ⟨_,rfl⟩ _ w (foots_lt S) (BoxF.stable (S.boxF b3) (fun h=>h))) ?_;clear S;rintro _ a w ⟨p19,c19,rfl,hf19⟩ S
 replace S:=S.add hf19;refine J5 ?_;clear S;intro a S;refine c_fore5 S (fun(j:Nat) (u2:Value) (p2:Option Addr) (c2:Nat) (t:List UInt8) uu=>[(5,uu 5),(15,.int .i64 (j:Nat)),(0,uu 22),(0,uu 23),(0,uu 24),(0,uu 25),(0,uu 26),(0,uu 27),(0,uu 28),(0,uu 29),(0,uu 30),(0,uu 31)]) (fun(j:Nat) (u2:Value) (p2:Option Addr) (c2:Nat) (t:List UInt8)=>[Wk.box b3 47 (cEv x),wI b u2 p2 c2 t]) (fun(j:Nat) (u2:Value) (p2:Option Addr) (c2:Nat) (t:List UInt8)=>[GlF p19 (offs b3 x.kind),TabF,InF x]) (fun(j:Nat) (u2:Value) (p2:Option Addr) (c2:Nat) (t:List UInt8)=>j≤(offE x.kind).length∧t=s++wordE x.kind++numsB (((offE x.kind).take j).map (atI (cEv x)))∧AdOk u2 b∧t.length≤s.length+7+30*j) (fun(j:Nat) (u2:Value) (p2:Option Addr) (c2:Nat) (t:List UInt8)=>(offE x.kind).length - j) (0) (u1) (p1) (c1) (s++wordE x.kind) ?_ S.uu ?_ ?_;exact ⟨Nat.zero_le _,by simp[numsB],hu1,by simp;omega⟩
 first | exact S | exact S.sub _ _
 clear S;rintro j u2 p2 c2 t uu a w ⟨hj,ht2,hu2,hl2⟩ S;refine J6 ?_;clear S;intro a S;refine kC S (fun h3=>?_) (fun h3=>?_);refine kK (xtn (kS (kB (kS ?_))));have hjl:j < (offE x.kind).length:=by simp at h3;omega
 have hKj:KLt j (offE x.kind).length:=⟨hjl⟩;have hK3:KLt j (offs b3 x.kind).length:=⟨by simpa using hjl⟩;have hmem:(offE x.kind).getD j 0∈offE x.kind:=by
  rw[List.getD_eq_getElem?_getD,List.getElem?_eq_getElem hjl];exact List.getElem_mem hjl
 obtain ⟨hi,hlt⟩:=offE_ints x hmem;have hIA:IntAt (cEv x) ((offE x.kind).getD j 0):=⟨hi⟩;have hrn:N64 (atI (cEv x) ((offE x.kind).getD j 0)):=nums_rng hrg _ (by rw[←nums_off];exact List.mem_map.2 ⟨_,hmem,rfl⟩);refine J3 ?_;clear S;intro a S;rw[nthG_off b3 x.kind j hjl]at S;refine J8 ?_;clear S;intro a S;refine sn S ?_;clear S;intro b29 a w S;replace S:=St.boxGl S b29 [atI (cEv x) ((offE x.kind).getD j 0)] rfl (fun _ _ _=>trivial);refine swr b u2 p2 c2 t S (wnums_c b u2 p2 c2 t [atI (cEv x) ((offE x.kind).getD j 0)] (some ⟨b29,0,none⟩) 1 (fun n hn=>by rw[List.mem_singleton.1 hn];exact hrn) (by simp;omega) _ (S.it (wI b u2 p2 c2 t)) (S.lend (wI b u2 p2 c2 t) (S.mem.fact TabF)) (S.lend (wI b u2 p2 c2 t) (S.gl (some ⟨b29,0,none⟩)))) ?_;clear S;intro v30 u3 p3 c3 a w hu3 S;refine J8 ?_;clear S;intro a S;rw[w6 ((j:Int)+1)]at S;have hil:=itoa_le hrn;refine ⟨j+1,u3,p3,c3,t++numsB [atI (cEv x) ((offE x.kind).getD j 0)],S.uu,⟨hjl,?_,hu3,by rw[List.length_append];have:=numsB1_le hrn;omega⟩,S.sub _ _,by omega⟩;have htk:(offE x.kind).take (j+1)=(offE x.kind).take j++[(offE x.kind).getD j 0]:=by
  rw[List.take_add_one,List.getD_eq_getElem?_getD,List.getElem?_eq_getElem hjl];rfl
 rw[htk,ht2];simp[numsB];refine kE (xte (xte (xbe (xtn ?_))));refine c_mrge4 S (fun(u9:Value) (p9:Option Addr) (c9:Nat) (t9:List UInt8) uu=>[(6,uu 6),(1,uu 8),(0,uu 9),(22,uu 32),(0,uu 33),(0,uu 34),(0,uu 35),(0,uu 36),(0,uu 37),(0,uu 38),(0,uu 39),(0,uu 40),(0,uu 41),(0,uu 42),(0,uu 43),(0,uu 44),(0,uu 45),(0,uu 46),(0,uu 47),(0,uu 48),(0,uu 49),(0,uu 50),(0,uu 51),(0,uu 52),(0,uu 53),(0,uu 54),(0,uu 55),(0,uu 56),(0,uu 57),(0,uu 58),(0,uu 59),(0,uu 60),(0,uu 61),(0,uu 62),(0,uu 63),(0,uu 64),(0,uu 65),(0,uu 66),(0,uu 67),(0,uu 68),(0,uu 69),(0,uu 70),(0,uu 71),(0,uu 72),(0,uu 73),(0,uu 74),(0,uu 75),(0,uu 76),(0,uu 77),(0,uu 78),(0,uu 79),(0,uu 80),(0,uu 81),(0,uu 82),(0,uu 83),(0,uu 84),(0,uu 85),(0,uu 86),(0,uu 87),(0,uu 88),(0,uu 89),(0,uu 90),(0,uu 91),(0,uu 92),(0,uu 93),(0,uu 94),(0,uu 95)]) (fun(u9:Value) (p9:Option Addr) (c9:Nat) (t9:List UInt8)=>[wI b u9 p9 c9 t9]) (fun(u9:Value) (p9:Option Addr) (c9:Nat) (t9:List UInt8)=>[TabF]) (fun(u9:Value) (p9:Option Addr) (c9:Nat) (t9:List UInt8)=>AdOk u9 b∧t9=t++restE x.e∧t9.length≤t.length+40000000) ?_ ?_;refine kS ?_;have hje:j=(offE x.kind).length:=by simp at h3;omega
 rw[hje,List.take_length,nums_off]at ht2;have hl3:t.length≤s.length+150:=by omega
 refine J12 ?_;clear S;intro a S;refine kC S (fun h8=>?_) (fun h8=>?_);refine J5 ?_;clear S;intro a S;refine c_mrge1 S (fun(vv:Int) uu=>[(6,.int .i64 vv),(29,uu 36),(0,uu 37),(0,uu 38)]) (fun(vv:Int)=>[Wk.box b3 47 (cEv x),wI b u2 p2 c2 t]) (fun(vv:Int)=>[TabF,InF x]) (fun(vv:Int)=>vv=(if x.ow then 1 else 0)) ?_ ?_;refine J7 ?_;clear S;intro a S;refine kC S (fun h10=>?_) (fun h10=>?_);refine J4 ?_;clear S;intro a S;exact ⟨1,S.uu,by rw[h10];rfl,S.sub _ _⟩;refine kK (xtn ?_);exact ⟨0,S.uu,by rw[h10];rfl,S.sub _ _⟩;clear S;rintro vv uu a w hvv S;refine J4 ?_;clear S;intro a S;refine sn S ?_;clear S;intro b41 a w S;replace S:=St.boxGl S b41 [vv] rfl (fun _ _ _=>trivial);have hvn:N64 vv:=by rw[hvv];split <;> exact ⟨by omega,by omega⟩
 have hvl:=numsB1_le hvn;refine swr b u2 p2 c2 t S (wnums_c b u2 p2 c2 t [vv] (some ⟨b41,0,none⟩) 1 (fun n hn=>by rw[List.mem_singleton.1 hn];exact hvn) (by simp;omega) _ (S.it (wI b u2 p2 c2 t)) (S.lend (wI b u2 p2 c2 t) (S.mem.fact TabF)) (S.lend (wI b u2 p2 c2 t) (S.gl (some ⟨b41,0,none⟩)))) ?_;clear S;intro v42 u3 p3 c3 a w hu3 S;refine J8 ?_;clear S;intro a S;refine sn S ?_;clear S;intro b47 a w S;replace S:=St.boxGl S b47 [x.oname] rfl (fun _ _ _=>trivial);obtain ⟨t3,ht3⟩:∃ t3,t3=t++numsB [vv]:=⟨_,rfl⟩;have hl3':t3.length≤t.length+21:=by rw[ht3,List.length_append];omega
 rw[←ht3]at S;refine swr b u3 p3 c3 t3 S (wnames_c b u3 p3 c3 t3 [x.oname] (some ⟨b47,0,none⟩) 1 (fun n hn=>by rw[List.mem_singleton.1 hn];exact h3n) (by simp;omega) _ (S.it (wI b u3 p3 c3 t3)) (S.lend (wI b u3 p3 c3 t3) (S.gl (some ⟨b47,0,none⟩)))) ?_;clear S;intro v48 u4 p4 c4 a w hu4 S;have hql:=names1_le x.oname;refine J7 ?_;clear S;intro a S;obtain ⟨t4,ht4⟩:∃ t4,t4=t3++namesB [x.oname]:=⟨_,rfl⟩;have hl4':t4.length≤t3.length+3+4*x.oname.length:=by rw[ht4,List.length_append];omega
 rw[←ht4]at S;refine swr b u4 p4 c4 t4 S (wterm_c b u4 p4 c4 t4 x.body (by omega) _ (S.it (wI b u4 p4 c4 t4)) (S.lend (wI b u4 p4 c4 t4) (S.t x.body))) ?_;clear S;intro v53 u5 p5 c5 a w hu5 S;have htl:=encT_le x.body.t;refine kN (xbn (xtn ?_));have hkd:x.kind=1:=by simpa using h8
 refine ⟨u5,p5,c5,t4++32::encT x.body.t,S.uu,⟨hu5,?_,by simp;omega⟩,S.sub _ _⟩;rw[ht4,ht3,hvv,restE,if_pos (show x.e.kind=1 from hkd)];simp[numsB,namesB,LEv.e];rfl;refine J6 ?_;clear S;intro a S;refine kC S (fun h15=>?_) (fun h15=>?_);refine J5 ?_;clear S;intro a S;refine sn S ?_;clear S;intro b59 a w S;replace S:=St.boxGl S b59 [x.name] rfl (fun _ _ _=>trivial);refine swr b u2 p2 c2 t S (wnames_c b u2 p2 c2 t [x.name] (some ⟨b59,0,none⟩) 1 (fun n hn=>by rw[List.mem_singleton.1 hn];exact h1n) (by simp;omega) _ (S.it (wI b u2 p2 c2 t)) (S.lend (wI b u2 p2 c2 t) (S.gl (some ⟨b59,0,none⟩)))) ?_;clear S;intro v60 u3 p3 c3 a w hu3 S;have hql:=names1_le x.name;refine J6 ?_;clear S;intro a S;obtain ⟨t3,ht3⟩:∃ t3,t3=t++namesB [x.name]:=⟨_,rfl⟩;have hl3':t3.length≤t.length+3+4*x.name.length:=by rw[ht3,List.length_append];omega
 rw[←ht3]at S;refine swr b u3 p3 c3 t3 S (wterm_c b u3 p3 c3 t3 x.term (by omega) _ (S.it (wI b u3 p3 c3 t3)) (S.lend (wI b u3 p3 c3 t3) (S.t x.term))) ?_;clear S;intro v64 u4 p4 c4 a w hu4 S;have htl:=encT_le x.term.t;refine kN (xbn (xtn ?_));have hkd:x.kind=2:=by simpa using h15
 refine ⟨u4,p4,c4,t3++32::encT x.term.t,S.uu,⟨hu4,?_,by simp;omega⟩,S.sub _ _⟩;rw[ht3,restE,if_neg (show ¬x.e.kind=1 from by show ¬x.kind=1;omega),if_pos (show x.e.kind=2 from hkd)];simp[namesB,LEv.e];refine J6 ?_;clear S;intro a S;refine kC S (fun h18=>?_) (fun h18=>?_);refine J6 ?_;clear S;intro a S;refine sn S ?_;clear S;intro b72 a w S;replace S:=St.boxGl S b72 [x.name,x.src] rfl (fun _ _ _=>trivial);refine swr b u2 p2 c2 t S (wnames_c b u2 p2 c2 t [x.name,x.src] (some ⟨b72,0,none⟩) 2 (fun n hn=>by
  simp only[List.mem_cons,List.not_mem_nil,or_false]at hn;rcases hn with rfl | rfl <;> assumption) (by simp;omega) _ (S.it (wI b u2 p2 c2 t)) (S.lend (wI b u2 p2 c2 t) (S.gl (some ⟨b72,0,none⟩)))) ?_;clear S;intro v73 u3 p3 c3 a w hu3 S
 have hql:=names2_le x.name x.src;refine kN (xbn (xtn ?_));have hkd:x.kind=3:=by simpa using h18
 refine ⟨u3,p3,c3,t++namesB [x.name,x.src],S.uu,⟨hu3,?_,by rw[List.length_append];omega⟩,S.sub _ _⟩;rw[restE,if_neg (show ¬x.e.kind=1 from by show ¬x.kind=1;omega),if_neg (show ¬x.e.kind=2 from by show ¬x.kind=2;omega),if_pos (show x.e.kind=3 from hkd)];simp[namesB,LEv.e];refine J6 ?_;clear S;intro a S;refine kC S (fun h20=>?_) (fun h20=>?_);refine J5 ?_;clear S;intro a S;refine swr b u2 p2 c2 t S (wstr_c b u2 p2 c2 t [32,61] (by simp;omega) _ (S.it (wI b u2 p2 c2 t))) ?_;clear S;intro v79 u3 p3 c3 a w hu3 S;refine J11 ?_;clear S;intro a S;refine c_fore5 S (fun(i:Nat) (u4:Value) (p4:Option Addr) (c4:Nat) (t4:List UInt8) uu=>[(8,uu 8),(0,uu 9),(73,.int .i64 (i:Nat)),(0,uu 84),(0,uu 85),(0,uu 86),(0,uu 87),(0,uu 88),(0,uu 89),(0,uu 90),(0,uu 91),(0,uu 92),(0,uu 93),(0,uu 94),(0,uu 95)]) (fun(i:Nat) (u4:Value) (p4:Option Addr) (c4:Nat) (t4:List UInt8)=>[Wk.box b3 47 (cEv x),wI b u4 p4 c4 t4]) (fun(i:Nat) (u4:Value) (p4:Option Addr) (c4:Nat) (t4:List UInt8)=>[TabF,InF x]) (fun(i:Nat) (u4:Value) (p4:Option Addr) (c4:Nat) (t4:List UInt8)=>i≤x.keep.xs.length∧t4=t++[32,61]++(x.keep.xs.take i).map bitB∧AdOk u4 b∧t4.length≤t.length+2+i) (fun(i:Nat) (u4:Value) (p4:Option Addr) (c4:Nat) (t4:List UInt8)=>x.keep.xs.length - i) (0) (u3) (p3) (c3) (t++[32,61]) ?_ S.uu ?_ ?_;exact ⟨Nat.zero_le _,by simp,hu3,by simp⟩
 first | exact S | exact S.sub _ _
 clear S;rintro i u4 p4 c4 t4 uu a w ⟨hi4,ht4,hu4,hl4⟩ S;refine J6 ?_;clear S;intro a S;refine kC S (fun h23=>?_) (fun h23=>?_);refine kK (xtn (kS (kB (kS ?_))));have hil:i < x.keep.xs.length:=by simp at h23;omega
 have hKi:KLt i x.keep.xs.length:=⟨hil⟩;refine J11 ?_;clear S;intro a S;refine c_mrge1 S (fun(cc:Int) uu=>[(9,.int .u8 cc),(77,uu 87),(0,uu 88),(0,uu 89)]) (fun(cc:Int)=>[Wk.box b3 47 (cEv x),wI b u4 p4 c4 t4]) (fun(cc:Int)=>[TabF,InF x]) (fun(cc:Int)=>cc=((bitB (nthG x.keep.xs i)).toNat:Int)) ?_ ?_;refine J5 ?_;clear S;intro a S;refine kC S (fun h26=>?_) (fun h26=>?_);refine J6 ?_;clear S;intro a S;exact ⟨_,S.uu,by rw[h26];rfl,S.sub _ _⟩;refine kK (xtn ?_);exact ⟨_,S.uu,by rw[h26];rfl,S.sub _ _⟩;clear S;rintro cc uu a w hcc S;refine J5 ?_;clear S;intro a S;rw[hcc]at S;refine swr b u4 p4 c4 t4 S (wbyte_c b u4 p4 c4 t4 (bitB (nthG x.keep.xs i)) (by omega) _ (S.it (wI b u4 p4 c4 t4))) ?_;clear S;intro v94 u5 p5 c5 a w hu5 S;refine J8 ?_;clear S;intro a S;rw[w6 ((i:Int)+1)]at S;refine ⟨i+1,u5,p5,c5,t4++[bitB (nthG x.keep.xs i)],S.uu,⟨hil,?_,hu5,by simp;omega⟩,S.sub _ _,by omega⟩;rw[nthG_take hil,ht4];simp;refine kE (xte (xte (xbe (xbn (xtn ?_)))));have hkd:x.kind=6:=by simpa using h20
 have hie:i=x.keep.xs.length:=by simp at h23;omega
 rw[hie,List.take_length]at ht4;refine ⟨u4,p4,c4,t4,S.uu,⟨hu4,?_,by omega⟩,S.sub _ _⟩;rw[ht4,restE,if_neg (show ¬x.e.kind=1 from by show ¬x.kind=1;omega),if_neg (show ¬x.e.kind=2 from by show ¬x.kind=2;omega),if_neg (show ¬x.e.kind=3 from by show ¬x.kind=3;omega),if_pos (show x.e.kind=6 from hkd)];simp[bitsE,LEv.e];refine kK (xbn (xtn ?_));simp only[decide_eq_false_iff_not]at h8 h15 h18 h20;refine ⟨u2,p2,c2,t,S.uu,⟨hu2,?_,by omega⟩,S.sub _ _⟩;rw[restE,if_neg (show ¬x.e.kind=1 from h8),if_neg (show ¬x.e.kind=2 from h15),if_neg (show ¬x.e.kind=3 from h18),if_neg (show ¬x.e.kind=6 from h20)];simp;clear S;rintro u9 p9 c9 t9 uu a w ⟨hu9,ht9,hl9⟩ S;refine J4 ?_;clear S;intro a S;refine swr b u9 p9 c9 t9 S (wbyte_c b u9 p9 c9 t9 10 (by omega) _ (S.it (wI b u9 p9 c9 t9))) ?_;clear S;intro v99 ua pa ca a w hua S;refine kN ?_;have hfin:t9++[10]=s++lineE x.e:=by
  have hje:j=(offE x.kind).length:=by simp at h3;omega
  rw[hje,List.take_length,nums_off]at ht2;rw[ht9,ht2,lineE_eq];simp[show x.e.kind=x.kind from rfl]
 rw[hfin]at S;have hh:=S.it (wI b ua pa ca (s++lineE x.e));have hn:=S.wd.own (wI b ua pa ca (s++lineE x.e)) (List.mem_cons_self ..) rfl;refine end0 S (fun _=>⟨ua,pa,ca,hua,hh,hn⟩)
theorem St.newW {w0:World}{M0:Nat→Prop}{ds:List Deferred}{a:Act}{w:World}{l:List Value}{bs:List Wk.Item}{fs:List (World→Prop)}{b:Nat}(S:St w0 M0 ds a w l (Wk.box b 106 [.pointer none,.slice none 0 0]::bs) fs):St w0 M0 ds a w l (wI b (.pointer none) none 0 []::bs) fs:=by
 have S1:=S.addNil 5 1;have S2:=(S1.perm (Wk.box b 106 [.pointer none,.slice none 0 0]::Wk.row 5 1 none 0 0 []::bs) (List.Perm.swap _ _ _)).toBoth;exact S2
instance itNo:ItOk noI:=⟨fun _ _ _ _=>trivial,fun _ _ _ h=>h.elim⟩
theorem numsB_le:∀ (l:List Int),(∀ n∈l,N64 n)→(numsB l).length≤21*l.length
 | [],_=>by simp[numsB]
 | n::l,h=>by
  have h1:=itoa_le (h n (by simp));have h2:=numsB_le l (fun m hm=>h m (by simp[hm]));rw[numsB]at h2⊢;rw[List.flatMap_cons,List.length_append,qqA,qqA];omega
theorem line_le {x:PEv}(hw:wrongV x=false)(hr:∀ n∈numsE x,N64 n):(lineE x).length≤300000:=by
 have hk:=(wrong_not hw).1;have hwl:=word_le hk;have hlens:x.keep.length≤2048∧x.name.length≤64∧x.src.length≤64∧x.oname.length≤64:=by
  simp only[wrongV,Bool.or_eq_false_iff,decide_eq_false_iff_not]at hw;omega
 have q1:=quote_len x.oname;have q2:=quote_len x.name;have q3:=quote_len x.src;have e1:=encT_le x.body;have e2:=encT_le x.term;have i1:(Lib.itoa (if x.ow=true then (1:Int) else 0)).length≤20:=itoa_le (by split <;> exact ⟨by omega,by omega⟩);have hn:=numsB_le _ hr;have hnl:(numsE x).length≤4:=by
  unfold numsE
  repeat' split
  all_goals simp
 have hrl:(restE x).length≤250000:=by
  unfold restE
  generalize Lib.itoa (if x.ow=true then (1:Int) else 0)=z at i1
  repeat' split
  all_goals simp only[List.flatMap_cons,List.flatMap_nil,List.length_append,qqA,qqB,bitsE,List.length_map]
  all_goals omega
 rw[lineE_eq];simp only[List.length_append,qqA,qqB];omega
theorem right_fit {x:LEv}(hw:wrongV x.e=false):x.name.length≤64∧x.src.length≤64∧x.oname.length≤64∧FitE x:=by
 simp only[wrongV,Bool.or_eq_false_iff,decide_eq_false_iff_not]at hw;have h1:¬2048 < x.keep.xs.length:=hw.1.1.1.1.2;have h2:¬64 < x.name.length:=hw.1.1.1.2.1.1;have h3:¬64 < x.src.length:=hw.1.1.1.2.1.2;have h4:¬64 < x.oname.length:=hw.1.1.1.2.2;exact ⟨by omega,by omega,by omega,⟨by omega⟩⟩
theorem checkE_ok {l:List PEv}(h:checkE l=true):l.length≤300∧∀ x∈l,wrongV x=false:=by
 simp only[checkE,Bool.and_eq_true,decide_eq_true_eq,Bool.not_eq_true',List.any_eq_false]at h;exact ⟨h.1,fun x hx=>by have:=h.2 x hx;simpa using this⟩
def printV (s:LScr):List UInt8 × Int:=if checkE s.evs=true then (if (printF s.area s.evs).length≤262144 then (printF s.area s.evs,0) else ([],3)) else ([],2)
theorem print_c (s:LScr)(hfit:FitS s)(w0:World)(ht:Fx w0 TabF)(hf:Fx w0 (InF s)) :
  Ret Tryz.prog 15 [vScr s] w0 (fun _=>False) fun v _=>v=.tuple ⟨[str (printV s).1,.int .i64 (printV s).2]⟩:=by
 have har:N64 s.area:=hf.now.2;refine E1 Tryz.func15 rfl Tryz.ntmps15 (Wd.begin (fs:=[TabF,InF s]) (by simp;exact ⟨ht,hf⟩)) ?_;intro a S;refine kS (kR ?_);refine sa S ?_;intro b1 a w S;refine J8 ?_;intro a S;refine sr S (scheck_c s hfit _ (S.i0 s)) ?_;rintro _ a w rfl S;refine J9 ?_;intro a S;refine kC S (fun h2=>?_) (fun h2=>?_);refine J9 ?_;intro a S;have hc:¬checkE s.evs=true:=fun h=>by rw[chkS,if_pos h]at h2;simp at h2
 refine end2 S (fun _=>?_);rw[printV,if_neg hc,chkS,if_neg hc];refine kK (xtn (kS ?_));have hc:checkE s.evs=true:=by
  cases h:checkE s.evs with
  | true=>rfl
  | false=>rw[chkS,h]at h2;simp at h2
 obtain ⟨hlen,hev⟩:=checkE_ok hc;have hlen':s.ev.xs.length≤300:=by simpa [LScr.evs] using hlen
 have hinn:=hf.now.1.2.2.2;refine kR (sa S ?_);intro b5 a w S;replace S:=St.newW S;refine J5 ?_;intro a S;refine swr b5 (.pointer none) none 0 [] S (wstr_c b5 (.pointer none) none 0 [] wWorld (by simp) _ (S.it (wI b5 (.pointer none) none 0 []))) ?_;intro v14 u1 p1 c1 a w hu1 S;rw[qqF]at S;refine J7 ?_;intro a S;refine sn S ?_;intro b18 a w S;replace S:=St.boxGl S b18 [s.area] rfl (fun _ _ _=>trivial);have hvl:=numsB1_le har;refine swr b5 u1 p1 c1 wWorld S (wnums_c b5 u1 p1 c1 wWorld [s.area] (some ⟨b18,0,none⟩) 1 (fun n hn=>by rw[List.mem_singleton.1 hn];exact har) (by simp) _ (S.it (wI b5 u1 p1 c1 wWorld)) (S.lend (wI b5 u1 p1 c1 wWorld) (S.mem.fact TabF)) (S.lend (wI b5 u1 p1 c1 wWorld) (S.gl (some ⟨b18,0,none⟩)))) ?_;intro v19 u2 p2 c2 a w hu2 S;refine J5 ?_;intro a S;obtain ⟨t2,ht2⟩:∃ t2,t2=wWorld++numsB [s.area]:=⟨_,rfl⟩;have hl2:t2.length≤26:=by rw[ht2,List.length_append];simp;omega
 rw[←ht2]at S;refine swr b5 u2 p2 c2 t2 S (wbyte_c b5 u2 p2 c2 t2 10 (by omega) _ (S.it (wI b5 u2 p2 c2 t2))) ?_;intro v21 u3 p3 c3 a w hu3 S;refine J12 ?_;intro a S;refine c_fore5 S (fun(k:Nat) (u4:Value) (p4:Option Addr) (c4:Nat) (t4:List UInt8) uu=>[(7,uu 7),(17,.int .i64 (k:Nat)),(0,uu 26),(0,uu 27),(0,uu 28),(0,uu 29),(0,uu 30),(0,uu 31)]) (fun(k:Nat) (u4:Value) (p4:Option Addr) (c4:Nat) (t4:List UInt8)=>[wI b5 u4 p4 c4 t4,Wk.box b1 26 (cScr s)]) (fun(k:Nat) (u4:Value) (p4:Option Addr) (c4:Nat) (t4:List UInt8)=>[TabF,InF s]) (fun(k:Nat) (u4:Value) (p4:Option Addr) (c4:Nat) (t4:List UInt8)=>k≤s.ev.xs.length∧t4=t2++[10]++((s.ev.xs.take k).map LEv.e).flatMap lineE∧AdOk u4 b5∧t4.length≤27+300000*k) (fun(k:Nat) (u4:Value) (p4:Option Addr) (c4:Nat) (t4:List UInt8)=>s.ev.xs.length - k) (0) (u3) (p3) (c3) (t2++[10]) ?_ S.uu ?_ ?_;exact ⟨Nat.zero_le _,by simp,hu3,by simp;omega⟩
 first | exact S | exact S.sub _ _
 clear S;rintro k u4 p4 c4 t4 uu a w ⟨hk,ht4,hu4,hl4⟩ S;refine J6 ?_;intro a S;refine kC S (fun h9=>?_) (fun h9=>?_);refine kK (xtn (kS (kB (kS ?_))));have hkl:k < s.ev.xs.length:=by simp at h9;omega
 have hKk:KLt k s.ev.xs.length:=⟨hkl⟩;have hw:wrongV (nthG s.ev.xs k).e=false:=hev _ (List.mem_map.2 ⟨_,nthG_mem hkl,rfl⟩);obtain ⟨f1,f2,f3,f4⟩:=right_fit hw;have hll:=line_le hw (nums_rng (hinn _ (nthG_mem hkl)).2.2.2);refine J3 ?_;intro a S;refine sa S ?_;intro b7 a w S;refine Y5 ?_;intro a w S;refine swr b5 u4 p4 c4 t4 S (wevent_c b5 u4 p4 c4 t4 (nthG s.ev.xs k) (wrong_not hw).1 (by omega) (by omega) (by omega) f4 (by omega) _ (S.it (wI b5 u4 p4 c4 t4)) (S.lend (wI b5 u4 p4 c4 t4) (S.mem.fact TabF)) (S.lend (wI b5 u4 p4 c4 t4) (S.i (nthG s.ev.xs k)))) ?_;intro v30 u5 p5 c5 a w hu5 S;refine J8 ?_;intro a S;rw[w6 ((k:Int)+1)]at S;refine ⟨k+1,u5,p5,c5,t4++lineE (nthG s.ev.xs k).e,S.uu,⟨hkl,?_,hu5,by rw[List.length_append];omega⟩,S.sub _ _,by omega⟩;rw[nthG_take hkl,ht4];simp;refine kE (xte (xte (xbe (xtn (kS (kS ?_))))));have hke:k=s.ev.xs.length:=by simp at h9;omega
 have hfin:t4=printF s.area s.evs:=by
  rw[ht4,ht2,hke,List.take_length,printF,headE,numsB];simp[LScr.evs]
 refine J2 ?_;intro a S;refine sr S (wlen_c b5 u4 p4 c4 t4 w (BoxF.stable (S.it (wI b5 u4 p4 c4 t4)).1 (fun h=>h))) ?_;rintro _ a w rfl S;refine J3 ?_;intro a S;refine kC S (fun h13=>?_) (fun h13=>?_);refine J8 ?_;intro a S;refine end2 S (fun _=>?_);have hgt:¬(printF s.area s.evs).length≤262144:=by rw[←hfin];simp at h13;omega
 rw[printV,if_pos hc,if_neg hgt];refine J5 ?_;intro a S;refine sit (wI b5 u4 p4 c4 t4) S (wstring_c b5 u4 p4 c4 t4 (by rw[hfin,printF,headE];simp) _ (S.it (wI b5 u4 p4 c4 t4))) rfl ?_;rintro _ a w rfl hS;have S:=hS noI trivial (fun k h=>h.elim);clear hS;refine J5 ?_;intro a S;refine end2 S (fun _=>?_);have hgt:(printF s.area s.evs).length≤262144:=by rw[←hfin];simp at h13;omega
 rw[printV,if_pos hc,if_pos hgt,hfin]
structure LTold where
 err:Int
 rerr:Int
 ver:Int
 wr:Int
 body:LTerm
abbrev cTold (t:LTold):List Value:=[.int .i64 t.err,.int .i64 t.rerr,.int .i64 t.ver,.int .i64 t.wr,.int .i64 t.body.kind,.int .i64 t.body.user,.int .i64 t.body.num,str t.body.text,.slice t.body.p t.body.kids.length t.body.cap]
instance encTold:Enc LTold:=⟨9,cTold,fun _=>rfl,fun x u hu=>by
 simp only[List.mem_cons,List.not_mem_nil,or_false]at hu;rcases hu with rfl | rfl | rfl | rfl | rfl | rfl | rfl | rfl | rfl <;> rfl⟩
instance layTold:Lay LTold:={ encTold with
 dflt:=⟨0,0,0,0,zeroL⟩
 inn:=fun w t=>LtIn w t.body∧N64 t.err∧N64 t.rerr∧N64 t.ver∧N64 t.wr
 mono:=fun _w _w' t h hx=>⟨LtIn.mono h t.body hx.1,hx.2⟩ }
theorem index_none {c:UInt8} : ∀ {s:List UInt8},(cutB c s).2=none→Lib.indexByte s c = -1
 | [],_=>rfl
 | x::xs,h=>by
  rw[cutB]at h;split at h;cases h
  rename_i hx
  have ih:=index_none (c:=c) (s:=xs) h;rw[Lib.indexByte,if_neg (by simpa using hx),ih];rfl
theorem index_some {c:UInt8} : ∀ {s r:List UInt8},(cutB c s).2=some r→Lib.indexByte s c=((cutB c s).1.length:Nat)
 | [],_,h=>by cases h
 | x::xs,r,h=>by
  rw[cutB]at h⊢;split at h
  rename_i hx
  rw[if_pos hx,Lib.indexByte,if_pos (by simpa using hx)];rfl
  rename_i hx
  have ih:=index_some (c:=c) (s:=xs) h;rw[if_neg hx,Lib.indexByte,if_neg (by simpa using hx),ih,if_neg (by simp)];simp
theorem index1_c (s:List UInt8)(c:UInt8)(w0:World):Ret Tryz.prog 107 [str s,str [c]] w0 (fun _=>False) fun v _=>v=.int .i64 (Lib.indexByte s c):=by
 refine Calls.mono (Any.stringslite_Index_one Tryz.lays219 ⟨s.toArray⟩ c w0) ?_;rintro e w' ⟨rfl,rfl⟩;exact ⟨_,rfl,Agree.refl _ _,rfl⟩
def cutV (c:UInt8)(s:List UInt8):Value:=.tuple ⟨[str (cutB c s).1,str ((cutB c s).2.getD []),.bool (cutB c s).2.isSome]⟩
theorem cutI_c (s:List UInt8)(c:UInt8)(hl:s.length≤1000000)(w0:World):Ret Tryz.prog 62 [str s,str [c]] w0 (fun _=>False) fun v _=>v=cutV c s:=by
 cases h:(cutB c s).2 with
 | none=>
  have hi:=index_none h;refine E1 Tryz.func62 rfl Tryz.ntmps62 (Wd.start w0) ?_;intro a S;refine J12 ?_;intro a S;refine sr S (index1_c s c _) ?_;rintro _ a w rfl S;rw[hi]at S;refine J21 ?_;intro a S;refine end3 S (fun _=>?_);have h1:=(cutB_none (c:=c) (l:=s) (s:=(cutB c s).1)).1 (by rw[←h]);rw[cutV,h,←h1.1];rfl
 | some r=>
  have hi:=index_some h;have h1:=(cutB_some (c:=c) (l:=s) (s:=(cutB c s).1) (r:=r)).1 (by rw[←h]);have hsl:=congrArg List.length h1.1;simp only[List.length_append,qqA]at hsl;obtain ⟨n,hn⟩:∃ n,n=(cutB c s).1.length:=⟨_,rfl⟩;rw[←hn]at hi hsl;have hL1:LeC n s.length:=⟨by omega⟩;have hL2:LeC (n+1) s.length:=⟨by omega⟩;refine E1 Tryz.func62 rfl Tryz.ntmps62 (Wd.start w0) ?_;intro a S;refine J12 ?_;intro a S;refine sr S (index1_c s c _) ?_;rintro _ a w rfl S;rw[hi]at S;refine J9 ?_;intro a S;refine kC S (fun h2=>?_) (fun h2=>?_);refine kS ?_;refine c_drawD [T9 0,T9 1,T9 2,T9 3,T9 4,T9 5,T9 6,T9 7,T9 8,T9 9,T9 10,T9 11] [] S ?_;intro w S;refine J8 ?_;intro a S;rw[show IntKind.i64.wrap ((n:Int)+(([c]:List UInt8).length:Nat))=((n+1:Nat):Int) from by rw[w64 _ (by simp;omega) (by simp;omega)];simp]at S;(iterate 4 (refine dq S ?_;intro a S));refine dn (xtn (kT (xtr ?_)));refine end3 S (fun _=>?_);have e1:s.take n=(cutB c s).1:=by
   conv=>lhs;rw[h1.1]
   rw[hn,List.take_left'];rfl
  have e2:s.drop (n+1)=r:=by
   conv=>lhs;rw[h1.1]
   rw[hn,show (cutB c s).1.length+1=((cutB c s).1++[c]).length from by simp,show (cutB c s).1++c::r=((cutB c s).1++[c])++r from by simp,List.drop_left'];rfl
  rw[cutV,h,List.take_length,e1,e2];rfl;refine J11 ?_;intro a S;exfalso;simp at h2
theorem cut_c (s:List UInt8)(c:UInt8)(hl:s.length≤1000000)(w0:World):Ret Tryz.prog 19 [str s,str [c]] w0 (fun _=>False) fun v _=>v=cutV c s:=by
 refine E1 Tryz.func19 rfl Tryz.ntmps19 (Wd.start w0) ?_;intro a S;refine J11 ?_;intro a S;refine sr S (cutI_c s c hl _) ?_;rintro _ a w rfl S;rw[cutV]at S;refine J9 ?_;intro a S;refine end3 S (fun _=>rfl)
def preB (c:UInt8):List UInt8→Bool
 | []=>false
 | x::_=>decide (x=c)
instance (priority:=50) opFalse {P:Program}{op:Op}{ty:TypeId}{cs:List Bool}{l:List Value}{bs:List Wk.Item}{fs:List (World→Prop)} : OpQ P op ty ⟨false::cs,l⟩ bs fs undef:=⟨fun ρ w h _=>by
 have:=h.1 false (by simp);cases this⟩
theorem hasprefix_c (s:List UInt8)(c:UInt8)(hl:s.length≤1000000)(w0:World):Ret Tryz.prog 228 [str s,str [c]] w0 (fun _=>False) fun v _=>v=.bool (preB c s):=by
 cases s with
 | nil=>
  refine E1 Tryz.func228 rfl Tryz.ntmps228 (Wd.start w0) ?_;intro a S;refine J12 ?_;intro a S;rw[show decide (((([c]:List UInt8).length:Nat):Int)≤((([]:List UInt8).length:Nat):Int))=false from by simp]at S;refine J12 ?_;intro a S;refine end1 S (fun _=>?_);simp[preB]
 | cons x s=>
  have hL1:LeC ([c]:List UInt8).length (x::s).length:=⟨by simp⟩;refine E1 Tryz.func228 rfl Tryz.ntmps228 (Wd.start w0) ?_;intro a S;refine J20 ?_;intro a S;refine J4 ?_;intro a S;refine end1 S (fun _=>?_);simp[preB];intro _;omega
theorem cutprefixI_c (s:List UInt8)(c:UInt8)(hl:s.length≤1000000)(w0:World):Ret Tryz.prog 198 [str s,str [c]] w0 (fun _=>False) fun v _=>v=.tuple ⟨[str (if preB c s then s.drop 1 else s),.bool (preB c s)]⟩:=by
 refine E1 Tryz.func198 rfl Tryz.ntmps198 (Wd.start w0) ?_;intro a S;refine J11 ?_;intro a S;refine sr S (hasprefix_c s c hl _) ?_;rintro _ a w rfl S;refine J3 ?_;intro a S;refine kC S (fun h1=>?_) (fun h1=>?_);refine J9 ?_;intro a S;have h:preB c s=false:=by simpa using h1
 refine end2 S (fun _=>?_);rw[h];rfl;refine kK (xtn (kS ?_));have h:preB c s=true:=by simpa using h1
 have hL1:LeC ([c]:List UInt8).length s.length:=⟨by
  cases s with
  | nil=>cases h
  | cons x s=>simp⟩
 refine J10 ?_;intro a S;refine end2 S (fun _=>?_);rw[h,List.take_length];rfl
theorem cutprefix_c (s:List UInt8)(c:UInt8)(hl:s.length≤1000000)(w0:World):Ret Tryz.prog 149 [str s,str [c]] w0 (fun _=>False) fun v _=>v=.tuple ⟨[str (if preB c s then s.drop 1 else s),.bool (preB c s)]⟩:=by
 refine E1 Tryz.func149 rfl Tryz.ntmps149 (Wd.start w0) ?_;intro a S;refine J10 ?_;intro a S;refine sr S (cutprefixI_c s c hl _) ?_;rintro _ a w rfl S;refine J7 ?_;intro a S;refine end2 S (fun _=>rfl)
abbrev rI (r:Nat)(s:List UInt8)(bad:Bool):Wk.Item:=Wk.box r 174 [str s,.bool bad]
def BlankR (r:Nat)(rest:List UInt8)(bad:Bool)(v:Value)(w:World):Prop:=∃ (s r2:List UInt8),v=str s∧(rI r r2 (bad||(blankP rest).isNone)).holds w∧r2.length≤rest.length∧s.length≤rest.length∧∀ x y,blankP rest=some (x,y)→s=x∧r2=y
theorem blank_c (r:Nat)(rest:List UInt8)(bad:Bool)(hl:rest.length≤1000000)(w0:World)(hb:(rI r rest bad).holds w0):Ret Tryz.prog 100 [pB r] w0 (rI r rest bad).foot fun v w'=>BlankR r rest bad v w':=by
 refine E1 Tryz.func100 rfl Tryz.ntmps100 (Wd.itLent (fs:=[]) hb (by simp)) ?_;intro a S;refine J11 ?_;intro a S;refine sr S (cut_c rest 32 hl _) ?_;rintro _ a w rfl S;rw[cutV]at S;refine Y20 ?_;intro a w S;refine Y20 ?_;intro a w S;refine J4 ?_;intro a S;have hh:=S.it (rI r ((cutB 32 rest).2.getD []) (bad||(cutB 32 rest).2.isSome&&decide ((cutB 32 rest).2.getD []=[])));have hlen:(cutB 32 rest).1.length≤rest.length∧((cutB 32 rest).2.getD []).length≤rest.length:=by
  cases h:(cutB 32 rest).2 with
  | none=>
   have h1:=(cutB_none (c:=32) (l:=rest) (s:=(cutB 32 rest).1)).1 (by rw[←h]);rw[←h1.1];simp
  | some q=>
   have h1:=(cutB_some (c:=32) (l:=rest) (s:=(cutB 32 rest).1) (r:=q)).1 (by rw[←h]);have:=congrArg List.length h1.1;simp at this⊢;omega
 have hbl:((cutB 32 rest).2.isSome&&decide ((cutB 32 rest).2.getD []=[]))=(blankP rest).isNone∧∀ x y,blankP rest=some (x,y)→(cutB 32 rest).1=x∧(cutB 32 rest).2.getD []=y:=by
  unfold blankP
  match h:cutB 32 rest with
  | (s,none)=>exact ⟨rfl,fun x y hx=>by cases hx;exact ⟨rfl,rfl⟩⟩
  | (s,some q)=>
   by_cases hq:q=[]
   simp[hq];simp[hq]
 rw[hbl.1]at hh;refine end1 S (fun _=>⟨_,_,rfl,hh,hlen.2,hlen.1,hbl.2⟩)
instance opErrN {P:Program}{l:Cx}{bs:List Wk.Item}{fs:List (World→Prop)}{x:Operand}{t t' ty:TypeId}{b:Bool}{te:TypeId}{pe:Value}[Ev l x (errV b te pe)][hi:IfT P t]:OpQ P (.binOp .neq t x (.const .nilIface) t') ty l bs fs (.bool (!b)):=⟨fun ρ w h _=>by
 have e2:ρ (.const .nilIface)=.nilIface:=h.ev (x:=.const .nilIface) (v:=.nilIface);cases b <;> simp[xop,execOp,h.ev (x:=x) (v:=errV _ te pe),e2,errV,eqGuard,binOp,run_equal_held_nil w t te pe hi.eq,run_equal_nil_nil w t hi.eq]⟩
def NumR (r:Nat)(rest:List UInt8)(bad:Bool)(v:Value)(w:World):Prop:=∃ (n:Int) (r2:List UInt8),v=.int .i64 n∧N64 n∧(rI r r2 (bad||(numberP rest).isNone)).holds w∧r2.length≤rest.length∧∀ x y,numberP rest=some (x,y)→n=x∧r2=y
theorem okN_iff {s:List UInt8}{bk:Bool}{n:Int}(h1:bk=true↔∃ m,Lib.atoiAll s=.ok m)(h2:∀ m,Lib.atoiAll s=.ok m→n=m):okN (Lib.atoiAll s)=if bk then some n else none:=by
 cases bk with
 | true=>
  obtain ⟨m,hm⟩:=h1.1 rfl;rw[hm,h2 m hm];rfl
 | false=>
  have hno:∀ m,Lib.atoiAll s≠.ok m:=fun m hm=>by have:=h1.2 ⟨m,hm⟩;cases this
  revert hno
  cases Lib.atoiAll s with
  | ok m=>exact fun h=>absurd rfl (h m)
  | _=>exact fun _=>rfl
theorem number_c (r:Nat)(rest:List UInt8)(bad:Bool)(hl:rest.length≤1000000)(w0:World)(hb:(rI r rest bad).holds w0)(ht:Stable (rI r rest bad).foot w0 LibF):Ret Tryz.prog 145 [pB r] w0 (rI r rest bad).foot fun v w'=>NumR r rest bad v w':=by
 refine E1 Tryz.func145 rfl Tryz.ntmps145 (Wd.itLent (fs:=[TabF,LibF]) hb (by simp;exact ⟨ht.imp fun _ h=>h.1,ht⟩)) ?_;intro a S;refine J8 ?_;intro a S;refine sit (rI r rest bad) S (blank_c r rest bad hl _ (S.it (rI r rest bad))) rfl ?_;rintro _ a w ⟨s,r2,rfl,hh,hl2,hls,hx⟩ hS;have S:=hS (rI r r2 (bad||(blankP rest).isNone)) hh (fun k h=>.inl h);clear hS hh;refine J6 ?_;intro a S;have hlib:=(S.mem.fact0 LibF).now;refine sr S (atoiL_c s (by omega) _ hlib.2.1 hlib.2.2) ?_;rintro _ a w ⟨n,bk,te,pe,rfl,hnr,hbk,hnm⟩ S;have hI:I64 n:=⟨hnr.1,hnr.2⟩;refine J20 ?_;intro a S;refine Y16 ?_;intro a w S;have hh:=S.it (rI r r2 (bad||(blankP rest).isNone||!bk||!decide (Lib.itoa n=s)));have hval:(bad||(blankP rest).isNone||!bk||!decide (Lib.itoa n=s))=(bad||(numberP rest).isNone)∧∀ x y,numberP rest=some (x,y)→n=x∧r2=y:=by
  unfold numberP
  match hbl:blankP rest with
  | none=>simp
  | some (s',r')=>
   obtain ⟨rfl,rfl⟩:=hx s' r' hbl;have hok:=okN_iff hbk hnm;simp only[numV,hok];cases bk with
   | false=>simp
   | true=>
    by_cases hs:Lib.itoa n=s
    simp[hs];simp[hs]
 rw[hval.1]at hh;refine end1 S (fun _=>⟨n,r2,rfl,hnr,hh,hl2,hval.2⟩)
def numsP:Nat→PA (List Int)
 | 0=>fun l=>some ([],l)
 | k+1=>fun l=>match numberP l with
  | some (n,r)=>(numsP k r).map fun p=>(n::p.1,p.2)
  | none=>none
theorem numsP_snoc:∀ (k:Nat) (l:List UInt8),numsP (k+1) l=match numsP k l with
  | some (ns,r)=>(numberP r).map fun p=>(ns++[p.1],p.2)
  | none=>none
 | 0,l=>by
  simp only[numsP];cases h:numberP l with
  | none=>rfl
  | some p=>obtain ⟨n,r⟩:=p;rfl
 | k+1,l=>by
  rw[numsP];simp only;cases h:numberP l with
  | none=>simp[numsP,h]
  | some p=>
   obtain ⟨n,r⟩:=p;simp only[numsP_snoc k r];rw[numsP];simp only[h];cases h2:numsP k r with
   | none=>rfl
   | some q=>
    obtain ⟨ns,r2⟩:=q;simp only[Option.map_some];cases numberP r2 with
    | none=>rfl
    | some z=>rfl
def setAt:List Nat→List Int→List Value→List Value
 | o::os,n::ns,cs=>setAt os ns (cs.set o (.int .i64 n))
 | _,_,cs=>cs
theorem setAt_snoc (o:Nat)(n:Int):∀ (os:List Nat) (ns:List Int) (cs:List Value),os.length=ns.length→setAt (os++[o]) (ns++[n]) cs=(setAt os ns cs).set o (.int .i64 n)
 | [],[],cs,_=>rfl
 | [],_::_,_,h=>by cases h
 | _::_,[],_,h=>by cases h
 | q::os,m::ns,cs,h=>setAt_snoc o n os ns _ (by simpa using h)
theorem setAt_len:∀ (os:List Nat) (ns:List Int) (cs:List Value),(setAt os ns cs).length=cs.length
 | [],_,_=>rfl
 | _::_,[],_=>rfl
 | _::os,n::ns,cs=>by rw[setAt,setAt_len os ns,List.length_set]
abbrev rbI (r:Nat)(s:List UInt8)(bad:Bool)(b:Nat)(T:TypeId)(cs:List Value):Wk.Item:=both (rI r s bad) (Wk.box b T cs)
def NumsR (r:Nat)(rest:List UInt8)(bad:Bool)(b:Nat)(T:TypeId)(os:List Nat)(cs:List Value)(w:World):Prop:=∃ (ns:List Int) (r2:List UInt8),ns.length=os.length∧(∀ n∈ns,N64 n)∧(rbI r r2 (bad||(numsP os.length rest).isNone) b T (setAt os ns cs)).holds w∧r2.length≤rest.length∧∀ x y,numsP os.length rest=some (x,y)→ns=x∧r2=y
theorem numbers_c (r:Nat)(rest:List UInt8)(bad:Bool)(b:Nat)(T:TypeId)(cs:List Value)(os:List Nat)(q:Option Addr)(e:Nat)(ho:∀ o∈os,o < cs.length)(hol:os.length≤1000)(hl:rest.length≤1000000)(w0:World)(hb:(rbI r rest bad b T cs).holds w0)(ht:Stable (rbI r rest bad b T cs).foot w0 LibF)
  (hf:Stable (rbI r rest bad b T cs).foot w0 (GlF q (os.map (OffS.mk (b:=b))))):Ret Tryz.prog 101 [pB r,.slice q os.length e] w0 (rbI r rest bad b T cs).foot fun _ w'=>NumsR r rest bad b T os cs w':=by
 refine E1 Tryz.func101 rfl Tryz.ntmps101 (Wd.it2Lent (fs:=[LibF,GlF q (os.map (OffS.mk (b:=b)))]) hb rfl rfl (by simp;exact ⟨ht,hf⟩)) ?_;intro a S;refine J8 ?_;intro a S;refine c_fore4 S (fun(k:Nat) (ns:List Int) (r3:List UInt8) (bd:Bool) uu=>[(5,uu 5),(2,.int .i64 (k:Nat)),(0,uu 9),(0,uu 10),(0,uu 11),(0,uu 12),(0,uu 13),(0,uu 14),(0,uu 15),(0,uu 16)]) (fun(k:Nat) (ns:List Int) (r3:List UInt8) (bd:Bool)=>[rI r r3 bd,Wk.box b T (setAt (os.take k) ns cs)]) (fun(k:Nat) (ns:List Int) (r3:List UInt8) (bd:Bool)=>[LibF,GlF q (os.map (OffS.mk (b:=b)))]) (fun(k:Nat) (ns:List Int) (r3:List UInt8) (bd:Bool)=>k≤os.length∧ns.length=k∧(∀ n∈ns,N64 n)∧r3.length≤rest.length∧bd=(bad||(numsP k rest).isNone)∧∀ x y,numsP k rest=some (x,y)→ns=x∧r3=y) (fun(k:Nat) (ns:List Int) (r3:List UInt8) (bd:Bool)=>os.length - k) (0) ([]) (rest) (bad) ?_ S.uu ?_ ?_;exact ⟨Nat.zero_le _,rfl,nofun,Nat.le_refl _,by simp[numsP],fun x y h=>by simp[numsP]at h;exact ⟨h.1.symm,h.2⟩⟩
 first | exact S | exact S.sub _ _
 clear S;rintro k ns r3 bd uu a w ⟨hk,hnl,hnr,hl3,hbd,hx⟩ S;refine J6 ?_;intro a S;refine kC S (fun h1=>?_) (fun h1=>?_);refine kK (xtn (kS (kB (kS ?_))));have hkl:k < os.length:=by simp at h1;omega
 have hK1:KLt k os.length:=⟨hkl⟩;have hK2:KLt k (os.map (OffS.mk (b:=b))).length:=⟨by simpa using hkl⟩;have hoff:(nthG (os.map (OffS.mk (b:=b))) k).o=os.getD k 0:=by
  have h1:=nthG_get (xs:=os.map (OffS.mk (b:=b))) (k:=k) (by simpa using hkl);rw[List.getElem?_map,List.getElem?_eq_getElem hkl]at h1;simp only[Option.map_some,Option.some.injEq]at h1;rw[←h1,List.getD_eq_getElem?_getD,List.getElem?_eq_getElem hkl];rfl
 have htk:os.take (k+1)=os.take k++[os.getD k 0]:=by
  rw[List.take_add_one,List.getD_eq_getElem?_getD,List.getElem?_eq_getElem hkl];rfl
 have hOL:OLt (setAt (os.take k) ns cs) (os.getD k 0):=⟨by
  rw[setAt_len,List.getD_eq_getElem?_getD,List.getElem?_eq_getElem hkl];exact ho _ (List.getElem_mem hkl)⟩
 refine J3 ?_;intro a S;rw[hoff]at S;refine J6 ?_;intro a S;refine sit (rI r r3 bd) S (number_c r r3 bd (by omega) _ (S.it (rI r r3 bd)) (S.lend (rI r r3 bd) (S.mem.fact LibF))) rfl ?_;rintro _ a w ⟨n,r4,rfl,hn,hh,hl4,hy⟩ hS;have S:=hS (rI r r4 (bd||(numberP r3).isNone)) hh (fun k h=>.inl h);clear hS hh;refine Y10 ?_;intro a w S;rw[w6 ((k:Int)+1)]at S;refine ⟨k+1,ns++[n],r4,(bd||(numberP r3).isNone),S.uu,⟨hkl,by simp;omega,fun m hm=>?_,by omega,?_,fun x y h=>?_⟩,?_,by omega⟩;rcases List.mem_append.1 hm with hm | hm
 exact hnr m hm;rw[List.mem_singleton.1 hm];exact hn;rw[numsP_snoc,hbd];cases h:numsP k rest with
 | none=>simp
 | some p=>
  obtain ⟨x,y⟩:=p;obtain ⟨rfl,rfl⟩:=hx x y h;simp
 rw[numsP_snoc]at h;cases h2:numsP k rest with
 | none=>rw[h2]at h;cases h
 | some p=>
  obtain ⟨x',y'⟩:=p;obtain ⟨rfl,rfl⟩:=hx x' y' h2;rw[h2]at h;simp only[Option.map_eq_some_iff]at h;obtain ⟨⟨m,z⟩,h3,h4⟩:=h;obtain ⟨rfl,rfl⟩:=hy m z h3;simp only[Prod.mk.injEq]at h4;exact h4
 rw[htk,setAt_snoc _ _ _ _ _ (by rw[List.length_take,hnl];omega)];exact S.sub _ _;refine kE (xte (xte (xbe ?_)));have hke:k=os.length:=by simp at h1;omega
 subst hke;rw[List.take_length]at S;replace S:=(S.sub [rI r r3 bd,Wk.box b T (setAt os ns cs)] []).toBoth;have hh:=S.it (rbI r r3 bd b T (setAt os ns cs));rw[hbd]at hh;refine end0 S (fun _=>⟨ns,r3,hnl,hnr,hh,hl3,hx⟩)
def PR {α:Type}(bad bd:Bool)(p:Option (α × List UInt8))(v:α)(r:List UInt8):Prop:=bd=(bad||p.isNone)∧(bd=false→p=some (v,r))
theorem PR.of {α:Type}{bad:Bool}{p:Option (α × List UInt8)}{v:α}{r:List UInt8}(h:bad=false→∀ x y,p=some (x,y)→v=x∧r=y):PR bad (bad||p.isNone) p v r:=⟨rfl,fun hb=>by
 cases p with
 | none=>simp at hb
 | some q=>
  obtain ⟨x,y⟩:=q;obtain ⟨rfl,rfl⟩:=h (by simpa using hb) x y rfl;rfl⟩
theorem PR.ret {α:Type}(bad:Bool)(v:α)(r:List UInt8):PR bad bad (some (v,r)) v r:=⟨by simp,fun _=>rfl⟩
theorem PR.bnd {α β:Type}{bad b1 b2:Bool}{p:Option (α × List UInt8)}{v:α}{r r2:List UInt8}{q:α→List UInt8→Option (β × List UInt8)}{u:β}(h:PR bad b1 p v r)(h2:PR b1 b2 (q v r) u r2):PR bad b2 (Proofs.YtlgnhhebeandkaaGreatDoor.bnd p q) u r2:=by
 obtain ⟨e1,x1⟩:=h;obtain ⟨e2,x2⟩:=h2;cases hb:b1 with
 | false=>
  rw[x1 hb,bnd_some];have hbad:bad=false:=by
   cases q:bad with
   | false=>rfl
   | true=>rw[q,hb,Bool.true_or]at e1;cases e1
  rw[hb]at e2;rw[hbad];exact ⟨e2,x2⟩
 | true=>
  have h3:b2=true:=by rw[e2,hb];rfl
  refine ⟨?_,fun h=>by rw[h3]at h;cases h⟩;rw[h3];rw[hb]at e1;cases p with
  | none=>simp[Proofs.YtlgnhhebeandkaaGreatDoor.bnd]
  | some q=>
   have:bad=true:=by simpa using e1.symm
   simp[this]
theorem kind_idx (w:List UInt8):max (idxG (fun y=>decide (w=y)) wordsE 0) 0=kindW w:=by
 unfold kindW wordsE
 by_cases h0:w=[]
 ·subst h0;rfl
 ·simp only[idxG,decide_eq_true_eq,if_neg h0]
  repeat' split
  all_goals rfl
theorem kind_rng (w:List UInt8):0≤kindW w∧kindW w≤7:=by
 unfold kindW
 repeat' split
 all_goals omega
def numbE (k:Int)(ns:List Int):PEv:={ zeroE with kind:=k,ok:=if k=1 then ns.getD 0 0 else 0,ou:=if k=1 then ns.getD 1 0 else 0,oo:=if k=1 then ns.getD 2 0 else 0,og:=if k=1 then ns.getD 3 0 else 0,num:=if k=3 then ns.getD 0 0 else if k=5 then ns.getD 1 0 else 0,user:=if k=4 then ns.getD 0 0 else 0,node:=if k=5∨k=6∨k=7 then ns.getD 0 0 else 0 }
theorem len_eq1 {l:List Int}(h:l.length=1):∃ a,l=[a]:=by
 match l,h with
 | [a],_=>exact ⟨a,rfl⟩
theorem len_eq2 {l:List Int}(h:l.length=2):∃ a b,l=[a,b]:=by
 match l,h with
 | [a,b],_=>exact ⟨a,b,rfl⟩
theorem len_eq4 {l:List Int}(h:l.length=4):∃ a b c d,l=[a,b,c,d]:=by
 match l,h with
 | [a,b,c,d],_=>exact ⟨a,b,c,d,rfl⟩
theorem setAt_numb {k:Int}{ns:List Int}(hl:ns.length=(offE k).length)(hn:∀ n∈ns,N64 n):∃ a1 a2 a4 a5 a19 a20 a21:Int,
  setAt (offE k) ns (zCE k)=[.int .i64 k,.int .i64 a1,.int .i64 a2,.string ⟨#[]⟩,.int .i64 a4,.int .i64 a5,.bool false,.int .i64 0,.int .i64 0,.int .i64 0,.string ⟨#[]⟩,.slice none 0 0,.string ⟨#[]⟩,.string ⟨#[]⟩,.int .i64 0,.int .i64 0,.int .i64 0,.string ⟨#[]⟩,.slice none 0 0,.int .i64 a19,.int .i64 a20,.int .i64 a21,.slice none 0 0]∧
   numbE k ns = { zeroE with kind:=k,ok:=a1,ou:=a2,oo:=a4,og:=a5,num:=a21,user:=a19,node:=a20 }∧N64 a1∧N64 a2∧N64 a4∧N64 a5∧N64 a19∧N64 a20∧N64 a21:=by
 have hg:∀ j,N64 (ns.getD j 0):=fun j=>by
  rw[List.getD_eq_getElem?_getD]
  by_cases h:j < ns.length
  ·rw[List.getElem?_eq_getElem h];exact hn _ (List.getElem_mem h)
  ·rw[List.getElem?_eq_none (by omega)];exact ⟨by show (-9223372036854775808:Int)≤0;omega,by show (0:Int)≤_;omega⟩
 have h0:N64 0:=⟨by omega,by omega⟩;refine ⟨if k=1 then ns.getD 0 0 else 0,if k=1 then ns.getD 1 0 else 0,if k=1 then ns.getD 2 0 else 0,if k=1 then ns.getD 3 0 else 0,if k=4 then ns.getD 0 0 else 0,if k=5∨k=6∨k=7 then ns.getD 0 0 else 0,if k=3 then ns.getD 0 0 else if k=5 then ns.getD 1 0 else 0,?_,rfl,?_,?_,?_,?_,?_,?_,?_⟩
 ·unfold offE at hl⊢
  by_cases h1:k=1
  ·subst h1;obtain ⟨a,b,c,d,rfl⟩:=len_eq4 hl;rfl
  by_cases h3:k=3
  ·subst h3;obtain ⟨a,rfl⟩:=len_eq1 hl;rfl
  by_cases h4:k=4
  ·subst h4;obtain ⟨a,rfl⟩:=len_eq1 hl;rfl
  by_cases h5:k=5
  ·subst h5;obtain ⟨a,b,rfl⟩:=len_eq2 hl;rfl
  by_cases h6:k=6
  ·subst h6;obtain ⟨a,rfl⟩:=len_eq1 hl;rfl
  by_cases h7:k=7
  ·subst h7;obtain ⟨a,rfl⟩:=len_eq1 hl;rfl
  ·simp only[if_neg h1,if_neg h3,if_neg h4,h6,h7,h5,or_self,if_false];rfl
 all_goals repeat' split
 all_goals first | exact hg _ | exact h0
def evTail (k:Int)(ns:List Int)(l:List UInt8):Option (PEv × List UInt8):=
 if k=1 then bnd (numberP l) fun w l=>bnd (if w=0∨w=1 then some (w,l) else none) fun w l=>bnd (nameP l) fun s l=>bnd (termP l) fun t l=>some ({ numbE k ns with ow:=decide (w=1),oname:=s,body:=t },l)
 else if k=2 then bnd (nameP l) fun s l=>bnd (termP l) fun t l=>some ({ numbE k ns with name:=s,term:=t },l)
 else if k=3 then bnd (nameP l) fun s l=>bnd (nameP l) fun t l=>some ({ numbE k ns with name:=s,src:=t },l)
 else if k=6 then bnd (bitsP l) fun b l=>some ({ numbE k ns with keep:=b },l)
 else some (numbE k ns,l)
theorem bnd_map {α β γ:Type}(p:Option (α × List UInt8))(f:α→γ)(q:γ→List UInt8→Option β):bnd (p.map fun x=>(f x.1,x.2)) q=bnd p fun a r=>q (f a) r:=by
 cases p with
 | none=>rfl
 | some x=>rfl
theorem nums_bnd {β:Type}(n:Nat)(l:List UInt8)(q:List Int→List UInt8→Option β):bnd (numsP (n+1) l) q=bnd (numberP l) fun a r=>bnd (numsP n r) fun ns r=>q (a::ns) r:=by
 rw[numsP];simp only;cases numberP l with
 | none=>rfl
 | some x=>
  obtain ⟨a,r⟩:=x;rw[bnd_some]
  show bnd ((numsP n r).map fun p=>(a::p.1,p.2)) q=_
  exact bnd_map (numsP n r) (fun ns=>a::ns) q
theorem nums_bnd0 {β:Type}(l:List UInt8)(q:List Int→List UInt8→Option β):bnd (numsP 0 l) q=q [] l:=rfl
theorem evBody_nums (k:Int)(l:List UInt8):evBody k l=bnd (numsP (offE k).length l) (evTail k):=by
 unfold evBody
 by_cases h1:k=1
 subst h1;rw[if_pos rfl]
 show _=bnd (numsP 4 l) _
 simp only[nums_bnd,nums_bnd0]
 congr 1;funext a l;congr 1;funext b l;congr 1;funext c l;congr 1;funext d l
 show _=bnd (numberP l) _
 congr 1;funext w l
 split;rfl;rfl;rw[if_neg h1]
 by_cases h2:k=2
 subst h2;rw[if_pos rfl];rfl;rw[if_neg h2]
 by_cases h3:k=3
 subst h3;rw[if_pos rfl]
 show _=bnd (numsP 1 l) _
 simp only[nums_bnd,nums_bnd0];rfl;rw[if_neg h3]
 by_cases h4:k=4
 subst h4;rw[if_pos rfl]
 show _=bnd (numsP 1 l) _
 simp only[nums_bnd,nums_bnd0];rfl;rw[if_neg h4]
 by_cases h5:k=5
 subst h5;rw[if_pos rfl]
 show _=bnd (numsP 2 l) _
 simp only[nums_bnd,nums_bnd0];rfl;rw[if_neg h5]
 by_cases h6:k=6
 subst h6;rw[if_pos rfl]
 show _=bnd (numsP 1 l) _
 simp only[nums_bnd,nums_bnd0];rfl;rw[if_neg h6]
 by_cases h7:k=7
 subst h7;rw[if_pos rfl]
 show _=bnd (numsP 1 l) _
 simp only[nums_bnd,nums_bnd0];rfl;rw[if_neg h7];have:offE k=[]:=by simp[offE,h1,h3,h4,h5,h6,h7]
 rw[this]
 show _=evTail k [] l
 simp[evTail,numbE,h1,h2,h3,h4,h5,h6,h7]
abbrev isBit (c:UInt8):Bool:=decide (c=48)||decide (c=49)
theorem allBits_all:∀ s:List UInt8,allBits s=if s.all isBit then some (s.map fun c=>decide (c=49)) else none
 | []=>rfl
 | c::r=>by
  rw[allBits,allBits_all r,List.all_cons]
  by_cases h:c=48∨c=49
  rw[if_pos h];have:isBit c=true:=by simpa [isBit] using h
  rw[this,Bool.true_and];split <;> simp_all
  rw[if_neg h];have:isBit c=false:=by simpa [isBit] using h
  rw[this,Bool.false_and];rfl
theorem bits_end {rest s r2 t:List UInt8}{bad:Bool}(hx:∀ x y,blankP rest=some (x,y)→s=x∧r2=y)(ht:t=if preB 61 s=true then s.drop 1 else s):PR bad (bad||(blankP rest).isNone||!(preB 61 s&&t.all isBit)) (bitsP rest) (t.map fun c=>decide (c=49)) r2:=by
 have h:(blankP rest).isNone=false→bitsV s=if preB 61 s&&t.all isBit then some (t.map fun c=>decide (c=49)) else none:=fun _=>by
  rw[ht];cases s with
  | nil=>rfl
  | cons c s=>
   rw[bitsV,allBits_all]
   by_cases hc:c=61
   subst hc;simp[preB];simp[preB,hc]
 unfold bitsP
 match hb:blankP rest with
 | none=>exact ⟨by simp,by simp⟩
 | some (x,y)=>
  obtain ⟨rfl,rfl⟩:=hx x y hb;simp only;rw[h (by rw[hb];rfl)];split
  rename_i hq;exact ⟨by simp[hq],fun _=>rfl⟩
  rename_i hq;exact ⟨by simp[hq],fun hf=>by simp[hq]at hf⟩
def ixV (o:Option Nat):Int:=match o with
 | some n=>(n:Int)
 | none=>-1
theorem ix_unhex (c:UInt8):Lib.indexByte digL c=ixV (unhexC c):=by
 have h:∀ n:Nat,n < 256→Lib.indexByte digL (UInt8.ofNat n)=ixV (unhexC (UInt8.ofNat n)):=by decide +kernel
 have:=h c.toNat c.toNat_lt;simpa using this
theorem indexbyte_c (s:List UInt8)(c:UInt8)(w0:World):Ret Tryz.prog 224 [str s,.int .u8 c.toNat] w0 (fun _=>False) fun v _=>v=.int .i64 (Lib.indexByte s c):=by
 refine Calls.mono (Any.strings_IndexByte Tryz.lays137 ⟨s.toArray⟩ c.toNat w0) ?_;rintro e w' ⟨rfl,rfl⟩;refine ⟨_,rfl,Agree.refl _ _,?_⟩;rw[show ((c.toNat:Int)).toNat.toUInt8=c from by simp]
instance {c:UInt8}{bs fs} : CallV Tryz.prog 224 [.string ⟨#[48,49,50,51,52,53,54,55,56,57,97,98,99,100,101,102]⟩,.int .u8 c.toNat] bs fs (.int .i64 (ixV (unhexC c))):=⟨fun w _=>by
 have:=indexbyte_c digL c w;rw[ix_unhex]at this;exact this⟩
def pairV:List UInt8→Option UInt8
 | a::b::_=>match unhexC a,unhexC b with
  | some x,some y=>some (UInt8.ofNat (16*x+y))
  | _,_=>none
 | _=>none
theorem pairV_at {t:List UInt8}(h:2≤t.length):pairV t=match unhexC (nthG t 0),unhexC (nthG t 1) with
  | some x,some y=>some (UInt8.ofNat (16*x+y))
  | _,_=>none:=by
 match t,h with
 | a::b::t,_=>rfl
theorem pair_val:∀ x:Nat,x < 16→∀ y:Nat,y < 16→Wk.u8 (ior .i64 (IntKind.i64.wrap (ixV (some x)*2 ^ min 4 IntKind.i64.bits)) (iand .i64 (ixV (some y)) 15))=UInt8.ofNat (16*x+y):=by decide +kernel
def PairR (r:Nat)(rest:List UInt8)(bad:Bool)(t:List UInt8)(v:Value)(w:World):Prop:=∃ c:UInt8,v=.int .u8 c.toNat∧(rI r rest (bad||(pairV t).isNone)).holds w∧∀ x,pairV t=some x→c=x
theorem pair_cS (r:Nat)(rest:List UInt8)(bad:Bool)(t:List UInt8)(hl:t.length≤1000000)(w0:World)(hb:(rI r rest bad).holds w0):Ret Tryz.prog 196 [pB r,str t] w0 (rI r rest bad).foot fun v w'=>PairR r rest bad t v w':=by
 refine E1 Tryz.func196 rfl Tryz.ntmps196 (Wd.itLent (fs:=[]) hb (by simp)) ?_;intro a S;refine J13 ?_;intro a S;refine kC S (fun h1=>?_) (fun h1=>?_);refine Y15 ?_;intro a w S;have hlt:t.length < 2:=by simp at h1;omega
 have hn:pairV t=none:=by
  match t,hlt with
  | [],_=>rfl
  | [_],_=>rfl
 have hh:=S.it (rI r rest true);refine end1 S (fun _=>⟨0,rfl,by rw[hn];simpa using hh,fun x hx=>by rw[hn]at hx;cases hx⟩);refine kK (xtn (kS ?_));have hlt:2≤t.length:=by simp at h1;omega
 have hK0:KLt 0 t.length:=⟨by omega⟩;have hK1:KLt 1 t.length:=⟨by omega⟩;refine c_drawD [T9 0,T9 1,T9 3,T9 4,F9 2,F9 5,T9 6,T9 7] [] S ?_;intro w S;(iterate 4 (refine dq S ?_;intro a S));refine dl (sc S ?_);intro a w S;refine de S ?_;refine dl (sc S ?_);intro a w S;refine de S ?_;(iterate 2 (refine dq S ?_;intro a S));refine dn (xtn (kS (kR ?_)));(iterate 6 (refine sq S ?_;intro a S));(iterate 2 (refine gQ S ?_;intro a S));refine Y22 ?_;intro a w S;have hix:∀ o:Option Nat,decide (ixV o < 0)=o.isNone:=fun o=>by
  cases o with
  | none=>rfl
  | some n=>
   show decide ((n:Int) < 0)=false
   rw[decide_eq_false_iff_not];omega
 have hh:=S.it (rI r rest (bad||decide (ixV (unhexC (nthG t 0)) < 0)||decide (ixV (unhexC (nthG t 1)) < 0)));rw[hix,hix]at hh;have hpn:(bad||(unhexC (nthG t 0)).isNone||(unhexC (nthG t 1)).isNone)=(bad||(pairV t).isNone):=by
  rw[pairV_at hlt];cases unhexC (nthG t 0) with
  | none=>simp
  | some x=>
   cases unhexC (nthG t 1) with
   | none=>simp
   | some y=>simp
 rw[hpn]at hh;refine end1 S (fun _=>⟨_,by rw[u8_wrap],hh,fun x hx=>?_⟩);rw[pairV_at hlt]at hx;cases h1:unhexC (nthG t 0) with
 | none=>rw[h1]at hx;cases hx
 | some x1=>
  cases h2:unhexC (nthG t 1) with
  | none=>rw[h1,h2]at hx;cases hx
  | some y1=>
   rw[h1,h2]at hx;cases hx;exact pair_val x1 (unhexC_iff.1 h1).1 y1 (unhexC_iff.1 h2).1
section
variable {P:Program}{r:Option Nat}{ops:Array Oper}{Q:Exit→Act→World→Prop}{w0:World}{M0:Nat→Prop}{ds:List Deferred}{a:Act}{w:World}{l:List Value}{bs bs':List Wk.Item}{fs:List (World→Prop)}
 {d:Option Nat} {ty:TypeId} {pos:String} {af:Array Edge} {rest:List Oper} {G:Value} {f:Nat} {x:Operand} {xs:List Operand} {args:List Value} {ts:Array TypeId} {j g:Nat} {pol:Bool}
theorem gcn {c:Bool}{l':Value→List Value}(it:Wk.Item)[hg:GSlot ops j g][hn:Nth l g G][hc:Conds G pol [c]][EntF P f][he:CallTo ⟨[c],l⟩ x xs f args][hp:∀ v,PutO l d (gif c v) (l' v)][hr:ReplI bs it noI bs'](S:St w0 M0 ds a w l bs fs)(v0:Value)(ho:it.own=true){R:Value→World→Prop}
  (hq:c=true→Ret P f args w it.foot R)
  (K:∀ v a w',(c=true→R v w')→(c=false→v=v0)→St w0 M0 ds a w' (l' v) bs' fs→WL P r ops Q rest a w'):WL P r ops Q (⟨d,.call { callee:=.value x,args:=xs.toArray,argTypes:=ts },ty,pos,af,some (j,pol)⟩::rest) a w:=by
 have hw:=wanted_iff (ops:=ops) (d:=d) (op:=.call { callee:=.value x,args:=xs.toArray,argTypes:=ts }) (ty:=ty) (pos:=pos) (af:=af) (pol:=pol) S hg.eq;obtain ⟨pre,post,q1,q2⟩:=hr.ex;refine wl_guard (fun ht=>?_) (fun hf=>?_)
 ·have hall:=hw.1 ht
  have hct:c=true:=hall c (by simp);have:CallTo ⟨[],l⟩ x xs f args:=⟨by
   obtain ⟨fi,ca,vs,h0,h1,h2⟩:=he.ex;exact ⟨fi,ca,vs,⟨fun _ ds=>h0.eq hall ds⟩,⟨fun _ ds=>h1.eq hall ds⟩,h2⟩⟩
  refine cv_any S (hq hct) ?_;rintro e w' ⟨v,rfl,ha,hR⟩;have:=hp v;have S':=S.put (d:=d) (v:=gif c v);have e1:gif c v=v:=by rw[hct];rfl
  rw[e1]at S';have hwd:=S'.wd;rw[q1]at hwd;exact ⟨v,rfl,K v _ w' (fun _=>hR) (fun h=>by rw[hct]at h;cases h) ⟨S'.slots,S'.defers,by rw[q2];exact hwd.swap ho ha trivial (fun k h=>h.elim) (fun k h=>h.elim) (fun _ _ _ _=>trivial)⟩⟩
 ·have hcf:c=false:=by
   cases q:c with
   | false=>rfl
   | true=>rw[hw.2 (by simp[q])]at hf;cases hf
  have:=hp v0;have S':=S.put (d:=d) (v:=gif c v0);have e:gif c v0=undef:=by rw[hcf];rfl
  rw[e]at S';have hwd:=S'.wd;rw[q1]at hwd;exact K v0 _ _ (fun h=>by rw[hcf]at h;cases h) (fun _=>rfl) ⟨S'.slots,S'.defers,by rw[q2];exact hwd.swap ho (Agree.refl _ _) trivial (fun k h=>h.elim) (fun k h=>h.elim) (fun _ _ _ _=>trivial)⟩
end
abbrev preN (out:List UInt8)(p:List UInt8 × List UInt8):List UInt8 × List UInt8:=(out++p.1,p.2)
def ScanAt (s out:List UInt8)(i:Nat)(bad bd:Bool):Prop:=(bd=bad∧scanN s=(scanN (s.drop i)).map (preN out))∨(bd=true∧scanN s=none)
theorem scan_drop {s:List UInt8}{i:Nat}(h:i < s.length):s.drop i=nthG s i::s.drop (i+1):=nthG_drop h
theorem ScanAt.plain {s out:List UInt8}{i:Nat}{bad bd:Bool}(h:ScanAt s out i bad bd)(hi:i < s.length)(h1:nthG s i≠34)(h2:nthG s i≠92):ScanAt s (out++[nthG s i]) (i+1) bad bd:=by
 rcases h with ⟨h3,h4⟩ | h
 refine .inl ⟨h3,?_⟩;rw[h4,scan_drop hi,scanN_cons,if_neg h1,if_neg h2];cases scanN (s.drop (i+1)) with
 | none=>rfl
 | some p=>simp[preN]
 exact .inr h
theorem ScanAt.last {s out:List UInt8}{i:Nat}{bad bd:Bool}(h:ScanAt s out i bad bd)(hi:i+1=s.length)(h2:nthG s i=92)(o2:List UInt8):ScanAt s o2 (i+1) bad bd:=by
 rcases h with ⟨h3,h4⟩ | h
 refine .inl ⟨h3,?_⟩;have hd:s.drop (i+1)=[]:=List.drop_eq_nil_of_le (by omega);rw[h4,scan_drop (by omega),hd,h2,scanN_cons,if_neg (by decide),if_pos rfl];rfl;exact .inr h
theorem ScanAt.esc {s out:List UInt8}{i:Nat}{bad bd:Bool}(h:ScanAt s out i bad bd)(hi:i+1 < s.length)(h2:nthG s i=92)(h3:nthG s (i+1)≠120):ScanAt s (out++[nthG s (i+1)]) (i+2) bad bd:=by
 rcases h with ⟨h4,h5⟩ | h
 refine .inl ⟨h4,?_⟩;rw[h5,scan_drop (by omega),scan_drop hi,h2,scanN_cons,if_neg (by decide),if_pos rfl];simp only[if_neg h3];cases scanN (s.drop (i+1+1)) with
 | none=>rfl
 | some p=>simp[preN]
 exact .inr h
theorem ScanAt.hex {s out:List UInt8}{i:Nat}{bad bd:Bool}(h:ScanAt s out i bad bd)(hi:i+1 < s.length)(h2:nthG s i=92)(h3:nthG s (i+1)=120){c:UInt8}(hc:∀ x,pairV (s.drop (i+2))=some x→c=x):ScanAt s (out++[c]) (i+4) bad (bd||(pairV (s.drop (i+2))).isNone):=by
 rcases h with ⟨h4,h5⟩ | h
 rw[scan_drop (show i < s.length by omega),scan_drop hi,h2,h3,scanN_cons,if_neg (by decide),if_pos rfl]at h5;simp only[if_true]at h5
 generalize hD:s.drop (i+1+1)=D at h5
 have hD4:s.drop (i+4)=D.drop 2:=by rw[←hD,List.drop_drop]
 have hc':∀ x,pairV D=some x→c=x:=fun x hx=>hc x (by rw[show i+2=i+1+1 from rfl,hD];exact hx)
 clear hc hD
 match D,h5,hc',hD4 with
 | [],h5,_,_=>exact .inr ⟨by simp[pairV],by rw[h5];rfl⟩
 | [_],h5,_,_=>exact .inr ⟨by simp[pairV],by rw[h5];rfl⟩
 | a::b::D',h5,hc',hD4=>
  simp only at h5;cases ha:unhexC a with
  | none=>exact .inr ⟨by simp[pairV,ha],by rw[h5,ha];rfl⟩
  | some x=>
   cases hb:unhexC b with
   | none=>exact .inr ⟨by simp[pairV,ha,hb],by rw[h5,ha,hb];rfl⟩
   | some y=>
    have hp:pairV (a::b::D')=some (UInt8.ofNat (16*x+y)):=by simp[pairV,ha,hb]
    refine .inl ⟨by rw[hp,h4];simp,?_⟩;rw[h5,ha,hb,hD4,hc' _ hp]
    show _=(scanN D').map (preN _)
    simp only;cases scanN D' with
    | none=>rfl
    | some p=>simp[preN]
 exact .inr ⟨by rw[h.1];rfl,h.2⟩
theorem ScanAt.done {s out:List UInt8}{i:Nat}{bad bd:Bool}(h:ScanAt s out i bad bd)(hi:i < s.length)(h2:nthG s i=34):(bd=bad∧scanN s=some (out,s.drop (i+1)))∨(bd=true∧scanN s=none):=by
 rcases h with ⟨h4,h5⟩ | h
 ·refine .inl ⟨h4,?_⟩
  rw[h5,scan_drop hi,h2,scanN_cons,if_pos rfl];simp[preN]
 ·exact .inr h
theorem ScanAt.over {s out:List UInt8}{i:Nat}{bad bd:Bool}(h:ScanAt s out i bad bd)(hi:s.length≤i):scanN s=none:=by
 rcases h with ⟨h4,h5⟩ | h
 rw[h5,List.drop_eq_nil_of_le hi];rfl;exact h.2
theorem nameP_none {rest s:List UInt8}(hs:s=if preB 34 rest=true then rest.drop 1 else rest)(h:preB 34 rest=false∨scanN s=none):nameP rest=none:=by
 cases rest with
 | nil=>rfl
 | cons c r=>
  rw[nameP]
  by_cases hc:c=34
  subst hc;rcases h with h | h
  simp[preB]at h;rw[show s=r from by rw[hs];simp[preB]]at h;rw[if_pos rfl,h];rw[if_neg hc]
theorem name_end {rest s out:List UInt8}{i:Nat}{bad bd:Bool}(hs:s=if preB 34 rest=true then rest.drop 1 else rest)(hp:preB 34 rest=true)(_hi:i < s.length)(h:(bd=bad∧scanN s=some (out,s.drop (i+1)))∨(bd=true∧scanN s=none)) :
  ((bd||!decide (32::quoteE out=[32,34]++s.take (i+1)))||(!decide (s.drop (i+1)=[])&&(!preB 32 (s.drop (i+1))||decide ((if preB 32 (s.drop (i+1))=true then (s.drop (i+1)).drop 1 else s.drop (i+1))=[]))))=(bad||(nameP rest).isNone)∧
   ∀ x y,nameP rest=some (x,y)→out=x∧(if preB 32 (s.drop (i+1))=true then (s.drop (i+1)).drop 1 else s.drop (i+1))=y:=by
 obtain ⟨r,rfl⟩:∃ r,rest=34::r:=by
  cases rest with
  | nil=>cases hp
  | cons c r=>exact ⟨r,by rw[show c=34 from by simpa [preB] using hp]⟩
 obtain rfl:s=r:=by rw[hs];simp[preB]
 rcases h with ⟨h1,h2⟩ | ⟨h1,h2⟩
 have hq:(32::quoteE out=[32,34]++s.take (i+1))↔34::s=quoteE out++s.drop (i+1):=by
  constructor;intro h;simp only[qqE,qqF,List.cons.injEq,true_and]at h;rw[h];simp;intro h
  conv at h=>lhs;rw[←List.take_append_drop (i+1) s]
  rw[←qqE]at h;have:=List.append_cancel_right h;rw[←this];rfl
 rw[nameP,if_pos rfl,h2];simp only
 by_cases hqq:34::s=quoteE out++s.drop (i+1)
 rw[if_pos hqq,decide_eq_true (hq.2 hqq),h1]
 generalize s.drop (i+1)=D
 cases D with
 | nil=>simp[preB]
 | cons d D=>
  by_cases hd:d=32
  subst hd;cases D with
  | nil=>simp[preB]
  | cons d2 D=>simp[preB]
  simp[preB,hd]
 rw[if_neg hqq,decide_eq_false (fun h=>hqq (hq.1 h))];simp;rw[nameP,if_pos rfl,h2,h1];simp
theorem encL_snocB (out:List UInt8)(x:UInt8):encL out++[Value.int .u8 x.toNat]=encL (out++[x]):=by rw[encL_append];rfl
theorem len_snocB (out:List UInt8)(x:UInt8):out.length+1=(out++[x]).length:=by simp
def NameR (r:Nat)(rest:List UInt8)(bad:Bool)(v:Value)(w:World):Prop:=∃ (n r2:List UInt8),v=str n∧(rI r r2 (bad||(nameP rest).isNone)).holds w∧r2.length≤rest.length∧∀ x y,nameP rest=some (x,y)→n=x∧r2=y
set_option maxHeartbeats 1000000 in
theorem rname_c0 (r:Nat)(rest:List UInt8)(bad:Bool)(hl:rest.length≤500000)(w0:World)(hb:(rI r rest bad).holds w0):Ret Tryz.prog 147 [pB r] w0 (rI r rest bad).foot fun v w'=>NameR r rest bad v w':=by
 refine E1 Tryz.func147 rfl Tryz.ntmps147 (Wd.itLent (fs:=[]) hb (by simp)) ?_;intro a S;refine kS (kR (sq S ?_));clear S;intro a S;refine kN (xtn (c_scope (kS (kR ?_))));(iterate 4 (refine sq S ?_;clear S;intro a S));refine sr S (cutprefix_c rest 34 (by omega) _) ?_;clear S;rintro _ a w rfl S;obtain ⟨s,hs⟩:∃ s,s=(if preB 34 rest=true then rest.drop 1 else rest):=⟨_,rfl⟩;rw[←hs]at S;have hsl:s.length≤rest.length:=by rw[hs];split <;> simp
 refine J15 ?_;clear S;intro a S;replace S:=S.addNil 5 1;rw[show Wk.row 5 1 none 0 0 []=Wk.row 5 1 none 0 0 (encL ([]:List UInt8)) from rfl]at S;refine kN (xtn (kS (c_label (xtn ?_))));refine c_mrgf5 S (fun(en:Int) (out:List UInt8) (q:Option Addr) (e:Nat) (bd:Bool) uu=>[(5,.slice q out.length e),(0,.int .i64 en),(0,uu 7),(0,uu 8),(12,uu 21),(0,uu 22),(0,uu 23),(0,uu 24),(0,uu 25),(0,uu 26),(0,uu 27),(0,uu 28),(0,uu 29),(0,uu 30),(0,uu 31),(0,uu 32),(0,uu 33),(0,uu 34),(0,uu 35),(0,uu 36),(0,uu 37),(0,uu 38),(0,uu 39),(0,uu 40),(0,uu 41),(0,uu 42),(0,uu 43),(0,uu 44),(0,uu 45),(0,uu 46),(0,uu 47),(0,uu 48),(0,uu 49),(0,uu 50),(0,uu 51),(0,uu 52),(0,uu 53),(0,uu 54),(0,uu 55),(0,uu 56),(0,uu 57),(0,uu 58),(0,uu 59),(0,uu 60),(0,uu 61),(0,uu 62),(0,uu 63),(0,uu 64),(0,uu 65)]) (fun(en:Int) (out:List UInt8) (q:Option Addr) (e:Nat) (bd:Bool)=>[Wk.row 5 1 q out.length e (encL out),rI r rest bd]) (fun(en:Int) (out:List UInt8) (q:Option Addr) (e:Nat) (bd:Bool)=>out.length≤s.length+5∧((en = -1∧(preB 34 rest=false∨scanN s=none))∨∃ i:Nat,en=(i:Nat)∧i < s.length∧preB 34 rest=true∧((bd=bad∧scanN s=some (out,s.drop (i+1)))∨(bd=true∧scanN s=none)))) ?_ ?_
 ·refine J6 ?_;clear S;intro a S
  refine c_fore5 S (fun(i:Nat) (out:List UInt8) (q:Option Addr) (e:Nat) (bd:Bool) uu=>[(5,.slice q out.length e),(0,.int .i64 (-1)),(0,.int .i64 (i:Nat)),(0,uu 8),(12,uu 21),(0,uu 22),(0,uu 23),(0,uu 24),(0,uu 25),(0,uu 26),(0,uu 27),(0,uu 28),(0,uu 29),(0,uu 30),(0,uu 31),(0,uu 32),(0,uu 33),(0,uu 34),(0,uu 35),(0,uu 36),(0,uu 37),(0,uu 38),(0,uu 39),(0,uu 40),(0,uu 41),(0,uu 42),(0,uu 43),(0,uu 44),(0,uu 45),(0,uu 46),(0,uu 47),(0,uu 48),(0,uu 49),(0,uu 50),(0,uu 51),(0,uu 52),(0,uu 53),(0,uu 54),(0,uu 55),(0,uu 56),(0,uu 57),(0,uu 58),(0,uu 59),(0,uu 60),(0,uu 61),(0,uu 62),(0,uu 63),(0,uu 64),(0,uu 65)]) (fun(i:Nat) (out:List UInt8) (q:Option Addr) (e:Nat) (bd:Bool)=>[Wk.row 5 1 q out.length e (encL out),rI r rest bd]) (fun(i:Nat) (out:List UInt8) (q:Option Addr) (e:Nat) (bd:Bool)=>[]) (fun(i:Nat) (out:List UInt8) (q:Option Addr) (e:Nat) (bd:Bool)=>i≤s.length+4∧out.length≤i∧ScanAt s out i bad bd) (fun(i:Nat) (out:List UInt8) (q:Option Addr) (e:Nat) (bd:Bool)=>s.length+5 - i) (0) ([]) (none) (0) (bad) ?_ S.uu ?_ ?_
  ·exact ⟨Nat.zero_le _,Nat.le_refl _,.inl ⟨rfl,by
     rw[List.drop_zero];cases scanN s <;> rfl⟩⟩
  ·first | exact S | exact S.sub _ _
  ·clear S;rintro i out q e bd uu a w ⟨hi4,hol,hsc⟩ S
   refine J12 ?_;clear S;intro a S;refine kC S (fun h5=>?_) (fun h5=>?_)
   ·refine kK (xtn (kS (kB (kS ?_))))
    obtain ⟨hok,hil⟩:preB 34 rest=true∧i < s.length:=by simpa using h5
    have hKi:KLt i s.length:=⟨hil⟩;refine J16 ?_;clear S;intro a S;refine kC S (fun h8=>?_) (fun h8=>?_)
    ·refine kS (kR ?_);(iterate 2 (refine sq S ?_;clear S;intro a S));refine kN (xtn (kE (xbx (xte (xbx (xte (xte (xbe (xtn ?_)))))))))
     have h34:nthG s i=34:=u8_eq.1 (of_decide_eq_true h8);exact ⟨(i:Nat),out,q,e,bd,S.uu,⟨by omega,.inr ⟨i,rfl,hil,hok,hsc.done hil h34⟩⟩,S.sub _ _⟩
    ·refine J14 ?_;clear S;intro a S
     refine kC S (fun h10=>?_) (fun h10=>?_)
     ·refine kS ?_
      have hn34:nthG s i≠34:=fun h=>(of_decide_eq_false h8) (by rw[h];rfl)
      rw[w6 ((i:Int)+1)]at h10;obtain ⟨h92,hi1⟩:nthG s i=92∧i+1 < s.length:=by
       simp only[Bool.and_eq_true,decide_eq_true_eq]at h10;exact ⟨u8_eq.1 h10.1,by omega⟩
      have hKi1:KLt (i+1) s.length:=⟨hi1⟩;have hLi2:LeC (i+2) s.length:=⟨by omega⟩;refine J3 ?_;clear S;intro a S;rw[w6 ((i:Int)+1),show (i:Int)+1=((i+1:Nat):Int) from rfl]at S;refine J17 ?_;clear S;intro a S;refine kC S (fun h13=>?_) (fun h13=>?_)
      ·refine J6 ?_;clear S;intro a S
       rw[w64 (((i+1:Nat):Int)+1) (by omega) (by omega),show ((i+1:Nat):Int)+1=((i+2:Nat):Int) from rfl]at S;refine J1 ?_;clear S;intro a S;rw[List.take_length]at S;refine sit (rI r rest bd) S (pair_cS r rest bd (s.drop (i+2)) (by simp;omega) _ (S.it (rI r rest bd))) rfl ?_;clear S;rintro _ a w ⟨pc,rfl,hh,hpc⟩ hS;have S:=hS (rI r rest (bd||(pairV (s.drop (i+2))).isNone)) hh (fun k h=>.inl h);clear hS hh;refine J6 ?_;clear S;intro a S;rw[w64 (((i+1:Nat):Int)+2) (by omega) (by omega),show ((i+1:Nat):Int)+2=((i+3:Nat):Int) from rfl]at S;refine J7 ?_;clear S;intro a S;refine sn S ?_;clear S;intro b64 a w S;refine sap S (by simp[maxLen];omega) (by omega) ?_;clear S;rintro q2 e2 a w - S;refine J10 ?_;clear S;intro a S;have h120:nthG s (i+1)=120:=u8_eq.1 (of_decide_eq_true h13);rw[w64 (((i+3:Nat):Int)+1) (by omega) (by omega),encL_snocB,len_snocB out pc]at S;exact ⟨i+4,out++[pc],q2,e2,_,S.uu,⟨by omega,by simp;omega,hsc.hex hi1 h92 h120 hpc⟩,S.sub _ _,by omega⟩
      ·refine J6 ?_;clear S;intro a S;refine sn S ?_;clear S;intro b64 a w S
       refine sap S (by simp[maxLen];omega) (by omega) ?_;clear S;rintro q2 e2 a w - S;refine J10 ?_;clear S;intro a S;have h120:nthG s (i+1)≠120:=fun h=>(of_decide_eq_false h13) (by rw[h];rfl)
       rw[w64 (((i+1:Nat):Int)+1) (by omega) (by omega),encL_snocB,len_snocB out (nthG s (i+1))]at S;exact ⟨i+2,out++[nthG s (i+1)],q2,e2,bd,S.uu,⟨by omega,by simp;omega,hsc.esc hi1 h92 h120⟩,S.sub _ _,by omega⟩
     ·refine J6 ?_;clear S;intro a S;refine sn S ?_;clear S;intro b64 a w S
      refine sap S (by simp[maxLen];omega) (by omega) ?_;clear S;rintro q2 e2 a w - S;refine J10 ?_;clear S;intro a S;have hn34:nthG s i≠34:=fun h=>(of_decide_eq_false h8) (by rw[h];rfl)
      rw[w6 ((i:Int)+1)]at h10;rw[w6 ((i:Int)+1),encL_snocB,len_snocB out (nthG s i)]at S;refine ⟨i+1,out++[nthG s i],q2,e2,bd,S.uu,⟨by omega,by simp;omega,?_⟩,S.sub _ _,by omega⟩
      by_cases h92:nthG s i=92
      ·have hi1:i+1=s.length:=by
        rw[h92]at h10;simp at h10;omega
       exact hsc.last hi1 h92 _
      ·exact hsc.plain hil hn34 h92
   ·refine kE (xte (xte (xbe (xtn ?_))))
    refine ⟨-1,out,q,e,bd,S.uu,⟨by omega,.inl ⟨rfl,?_⟩⟩,S.sub _ _⟩
    by_cases hok:preB 34 rest=true
    ·rw[hok]at h5
     exact .inr (hsc.over (by simp at h5;omega))
    ·exact .inl (by simpa using hok)
 ·clear S;rintro en out q e bd uu a w ⟨hol,hcase⟩ S
  refine J7 ?_;clear S;intro a S;refine kC S (fun h17=>?_) (fun h17=>?_)
  ·refine kS (kR ?_);(iterate 4 (refine sq S ?_;clear S;intro a S));refine sw S ?_;clear S;intro a w S;(iterate 2 (refine sq S ?_;clear S;intro a S));refine sw S ?_;clear S;intro a w S;refine kN (xtn (kS (kR (sq S ?_))));clear S;intro a S;refine kN (xtn (kT (xtr (xsr ?_))))
   have hen:nameP rest=none:=by
    rcases hcase with ⟨-,h⟩ | ⟨i,rfl,-⟩
    ·exact nameP_none hs h
    ·simp at h17;omega
   have hh:=S.it (rI r [] true);refine end1 S (fun _=>⟨[],[],rfl,by rw[hen];simpa using hh,by simp,fun x y h=>by rw[hen]at h;cases h⟩)
  ·refine kK (xtn (kS ?_))
   obtain ⟨i,rfl,hil,hok,hsc⟩:∃ i:Nat,en=(i:Nat)∧i < s.length∧preB 34 rest=true∧((bd=bad∧scanN s=some (out,s.drop (i+1)))∨(bd=true∧scanN s=none)):=by
    rcases hcase with ⟨h,-⟩ | h
    ·rw[h]at h17;simp at h17
    ·exact h
   have hLi:LeC (i+1) s.length:=⟨by omega⟩;have hLC:LeC (([32,34]:List UInt8).length+((s.take (i+1)).drop 0).length) 4611686018427387904:=⟨by simp;omega⟩;refine kR (sa S ?_);clear S;intro b9 a w S;replace S:=St.newW S;refine J6 ?_;clear S;intro a S;refine sn S ?_;clear S;intro b76 a w S;replace S:=St.boxGl S b76 [out] rfl (fun _ _ _=>trivial);refine swr b9 (.pointer none) none 0 [] S (wnames_c b9 (.pointer none) none 0 [] [out] (some ⟨b76,0,none⟩) 1 (fun n hn=>by rw[List.mem_singleton.1 hn];omega) (by simp) _ (S.it (wI b9 (.pointer none) none 0 [])) (S.lend (wI b9 (.pointer none) none 0 []) (S.gl (some ⟨b76,0,none⟩)))) ?_;clear S;intro v77 u1 p1 c1 a w hu1 S;rw[qqF]at S;refine J7 ?_;clear S;intro a S;rw[w6 ((i:Int)+1),show (i:Int)+1=((i+1:Nat):Int) from rfl]at S;refine J1 ?_;clear S;intro a S;rw[List.take_length]at S;refine J6 ?_;clear S;intro a S;refine sr S (cutprefix_c (s.drop (i+1)) 32 (by simp;omega) _) ?_;clear S;rintro _ a w rfl S;refine J8 ?_;clear S;intro a S;refine c_drwe1 (.q 0 (.q 1 (.q 2 (.q 3 (.l 4 (.q 5 (.q 6 (.q 8 (.q 9 (.q 10 (.q 11 (.q 12 (.l 7 (.q 13 (.q 14 (.q 15 (.q 16 (.q 17 (.q 18 (.q 19 (.q 20 (.q 21 (.q 22 (.q 23 (.q 24 (.q 25 (.q 26 (.q 27 (.q 28 (.l 29 (.e))))))))))))))))))))))))))))))) S (fun(bdf:Bool) uu=>[(87,uu 87),(0,uu 88),(0,uu 89),(0,uu 90),(0,uu 91),(0,uu 92),(0,uu 93),(0,uu 94),(0,uu 95),(0,uu 96),(0,uu 97),(0,uu 98),(0,uu 99),(0,uu 100),(0,uu 101),(0,uu 102),(0,uu 103),(0,uu 104),(0,uu 105),(0,uu 106),(0,uu 107),(0,uu 108),(0,uu 109),(0,uu 110),(0,uu 111),(0,uu 112),(0,uu 113),(0,uu 114),(0,uu 115)]) [] (fun(bdf:Bool)=>[Wk.row 5 1 q out.length e (encL out),rI r rest bdf]) (fun(bdf:Bool)=>[]) (fun(bdf:Bool)=>bdf=(bad||(nameP rest).isNone)) ?_ ?_
   ·intro w S
    (iterate 4 (refine tq S ?_;clear S;intro a S));refine tl (sq S ?_);clear S;intro a S;refine te S ?_;refine tq S ?_;clear S;intro a S;(iterate 4 (refine tqG S ?_;clear S;intro a S));rw[w6 ((i:Int)+1),show (i:Int)+1=((i+1:Nat):Int) from rfl]at S;(iterate 2 (refine tqG S ?_;clear S;intro a S));refine tl ?_;refine gcn (wI b9 u1 p1 c1 (namesB [out])) S (str (namesB [out])) rfl (fun _=>wstring_c b9 u1 p1 c1 (namesB [out]) (by simp[namesB]) _ (S.it (wI b9 u1 p1 c1 (namesB [out])))) ?_;clear S;rintro v94 a w hR1 hR2 S;obtain rfl:v94=str (namesB [out]):=by
     cases hq:(!bd) with
     | true=>exact hR1 hq
     | false=>exact hR2 hq
    clear hR1 hR2;refine te S ?_;refine tqG S ?_;clear S;intro a S;(iterate 2 (refine tq S ?_;clear S;intro a S));(iterate 10 (refine tqG S ?_;clear S;intro a S));(iterate 3 (refine tq S ?_;clear S;intro a S));refine tl (sw S ?_);clear S;intro a w S;refine te S ?_;refine tn ?_;rw[show namesB [out]=32::quoteE out from by simp[namesB],List.drop_zero,(name_end hs hok hil hsc).1]at S;exact ⟨_,S.uu,rfl,S.sub _ _⟩
   clear S;rintro bdf uu a w hbdf S;refine xtn (kS (kR ?_));(iterate 4 (refine sq S ?_;clear S;intro a S));refine sw S ?_;clear S;intro a w S;refine kN (xtn (kS (kR ?_)));(iterate 3 (refine sq S ?_;clear S;intro a S));refine kN (xtn (kT (xsr ?_)));have hh:=S.it (rI r (if preB 32 (s.drop (i+1))=true then (s.drop (i+1)).drop 1 else s.drop (i+1)) bdf);rw[hbdf]at hh;refine end1 S (fun _=>⟨out,_,rfl,hh,?_,(name_end hs hok hil hsc).2⟩);split <;> simp <;> omega
def UnAt (s out:List UInt8)(i:Nat)(bad bd:Bool):Prop:=(bd=bad∧unhex s=(unhex (s.drop i)).map (out++·))∨(bd=true∧unhex s=none)
theorem UnAt.step {s out:List UInt8}{i:Nat}{bad bd:Bool}(h:UnAt s out i bad bd)(hi:i < s.length){c:UInt8}(hc:∀ x,pairV (s.drop i)=some x→c=x):UnAt s (out++[c]) (i+2) bad (bd||(pairV (s.drop i)).isNone):=by
 rcases h with ⟨h1,h2⟩ | h
 have hD4:s.drop (i+2)=(s.drop i).drop 2:=by rw[List.drop_drop]
 have hne:s.drop i≠[]:=by intro h;have:=List.drop_eq_nil_iff.1 h;omega
 generalize s.drop i=D at h2 hc hD4 hne
 match D,hne,h2,hc,hD4 with
 | [_],_,h2,_,_=>exact .inr ⟨by simp[pairV],by rw[h2];rfl⟩
 | a::b::D',_,h2,hc,hD4=>
  rw[unhex]at h2;cases ha:unhexC a with
  | none=>exact .inr ⟨by simp[pairV,ha],by rw[h2,ha];rfl⟩
  | some x=>
   cases hb:unhexC b with
   | none=>exact .inr ⟨by simp[pairV,ha,hb],by rw[h2,ha,hb];rfl⟩
   | some y=>
    have hp:pairV (a::b::D')=some (UInt8.ofNat (16*x+y)):=by simp[pairV,ha,hb]
    refine .inl ⟨by rw[hp,h1];simp,?_⟩;rw[h2,ha,hb,hD4,hc _ hp]
    show _=(unhex D').map _
    simp only;cases unhex D' with
    | none=>rfl
    | some p=>simp
 exact .inr ⟨by rw[h.1];rfl,h.2⟩
theorem term_end {rest s r2 out:List UInt8}{bad bd:Bool}{i:Nat}(hx:∀ x y,blankP rest=some (x,y)→s=x∧r2=y)(hs:s≠[45])(hu:UnAt s out i (bad||(blankP rest).isNone) bd)(hend:¬(i < s.length∧bd=false)){z:Term}{n e:Int}
  (hd:(∃ left r,decT 60 1200 out=.ok (z,left,r)∧n=(out.length:Int) - r.length∧e=0)∨(decT 60 1200 out=.error e∧e≠0)) :
  (bd||!decide (e=0)||!decide (n=(out.length:Nat)))=(bad||(termP rest).isNone)∧(bad=false→∀ t y,termP rest=some (t,y)→z=t∧r2=y):=by
 unfold termP
 match hb:blankP rest with
 | none=>
  have:bd=true:=by
   rcases hu with ⟨h,-⟩ | ⟨h,-⟩
   rw[h,hb];simp;exact h
  simp[this]
 | some (x,y)=>
  obtain ⟨rfl,rfl⟩:=hx x y hb;simp only[hb,Option.isNone_some,Bool.or_false]at hu;simp only[termV,if_neg hs];rcases hu with ⟨h1,h2⟩ | ⟨h1,h2⟩
  cases hbd:bd with
  | true=>
   rw[hbd]at h1;rw[←h1];exact ⟨by simp,nofun⟩
  | false=>
   have hi:s.length≤i:=Classical.byContradiction fun h=>hend ⟨by omega,hbd⟩
   rw[List.drop_eq_nil_of_le hi,unhex]at h2;simp only[Option.map_some,List.append_nil]at h2;rw[h2,←h1,hbd];simp only;rcases hd with ⟨left,r,h3,h4,h5⟩ | ⟨h3,h5⟩
   rw[h3,h5];simp only
   by_cases hr:r=[]
   subst hr;have:n=(out.length:Nat):=by rw[h4];simp
   simp[this];have:¬n=(out.length:Nat):=by
    have:=List.length_pos_iff.2 hr;omega
   simp[this,hr];rw[h3];simp[h5]
  rw[h2,h1];simp
def RTermR (Mr:Nat→Prop)(r:Nat)(rest:List UInt8)(bad:Bool)(v:Value)(w:World):Prop:=∃ (z:LTerm) (r2:List UInt8),v=vL z∧Stable (fun k=>k=r∨Mr k) w (LtF z)∧(rI r r2 (bad||(termP rest).isNone)).holds w∧r2.length≤rest.length∧(bad=false→∀ t y,termP rest=some (t,y)→z.t=t∧r2=y)
set_option maxHeartbeats 1000000 in
theorem rterm_c (r:Nat)(rest:List UInt8)(bad:Bool)(Mr:Nat→Prop)(hl:rest.length≤500000)(w0:World)(hMr:∀ k,Mr k→k < w0.heap.size∧¬(rI r rest bad).foot k)(hb:(rI r rest bad).holds w0):Ret Tryz.prog 148 [pB r] w0 (rI r rest bad).foot fun v w'=>RTermR Mr r rest bad v w':=by
 refine E1 Tryz.func148 rfl Tryz.ntmps148 ((Wd.itLentM (x:=rI r rest bad) (Mr:=Mr) (fs:=[]) hb hMr (by simp))) ?_;intro a S;refine kS (kR ?_);refine sa S ?_;intro b2 a w S;refine J5 ?_;intro a S;refine sit (rI r rest bad) S (blank_c r rest bad (by omega) _ (S.it (rI r rest bad))) rfl ?_;rintro _ a w ⟨s,r2,rfl,hh,hl2,hls,hx⟩ hS;have S:=hS (rI r r2 (bad||(blankP rest).isNone)) hh (fun k h=>.inl h);clear hS hh;refine J10 ?_;intro a S;refine kC S (fun h2=>?_) (fun h2=>?_);refine Y8 ?_;intro a w S;have hs:s=[45]:=of_decide_eq_true h2;have hh:=S.it (rI r r2 (bad||(blankP rest).isNone));have hv:(blankP rest).isNone=(termP rest).isNone∧∀ t y,termP rest=some (t,y)→zeroT=t∧r2=y:=by
  unfold termP
  match hbl:blankP rest with
  | none=>simp
  | some (x,y)=>
   obtain ⟨rfl,rfl⟩:=hx x y hbl;simp[termV,hs]
 rw[hv.1]at hh;refine end1 S (fun _=>⟨zeroL,r2,rfl,fun _ _=>zeroL_in _,hh,hl2,fun _=>hv.2⟩);refine kK (xtn (kS ?_));have hs:s≠[45]:=of_decide_eq_false h2;replace S:=S.addNil 5 1;rw[show Wk.row 5 1 none 0 0 []=Wk.row 5 1 none 0 0 (encL ([]:List UInt8)) from rfl]at S;refine J11 ?_;intro a S;refine c_fore5 S (fun(i:Nat) (out:List UInt8) (q:Option Addr) (e:Nat) (bd:Bool) uu=>[(4,.slice q out.length e),(0,.int .i64 (i:Nat)),(8,uu 14),(0,uu 15),(0,uu 16),(0,uu 17),(0,uu 18),(0,uu 19),(0,uu 20),(0,uu 21),(0,uu 22),(0,uu 23),(0,uu 24),(0,uu 25),(0,uu 26),(0,uu 27),(0,uu 28),(0,uu 29),(0,uu 30),(0,uu 31),(0,uu 32),(0,uu 33),(0,uu 34)]) (fun(i:Nat) (out:List UInt8) (q:Option Addr) (e:Nat) (bd:Bool)=>[Wk.row 5 1 q out.length e (encL out),Wk.box b2 42 zTm,rI r r2 bd,ext Mr]) (fun(i:Nat) (out:List UInt8) (q:Option Addr) (e:Nat) (bd:Bool)=>[]) (fun(i:Nat) (out:List UInt8) (q:Option Addr) (e:Nat) (bd:Bool)=>i≤s.length+2∧out.length≤i∧UnAt s out i (bad||(blankP rest).isNone) bd) (fun(i:Nat) (out:List UInt8) (q:Option Addr) (e:Nat) (bd:Bool)=>s.length+3 - i) (0) ([]) (none) (0) ((bad||(blankP rest).isNone)) ?_ S.uu ?_ ?_;exact ⟨Nat.zero_le _,Nat.le_refl _,.inl ⟨rfl,by
   rw[List.drop_zero];cases unhex s <;> rfl⟩⟩
 first | exact S | exact S.sub _ _
 clear S;rintro i out q e bd uu a w ⟨hi2,hol,hun⟩ S;refine J16 ?_;intro a S;refine kC S (fun h6=>?_) (fun h6=>?_);refine kK (xtn (kS (kB ?_)));obtain ⟨hil,hbd⟩:i < s.length∧bd=false:=by simpa using h6
 have hLi:LeC i s.length:=⟨by omega⟩;refine J6 ?_;intro a S;rw[List.take_length]at S;refine sit (rI r r2 bd) S (pair_cS r r2 bd (s.drop i) (by simp;omega) _ (S.it (rI r r2 bd))) rfl ?_;rintro _ a w ⟨pc,rfl,hh,hpc⟩ hS;have S:=hS (rI r r2 (bd||(pairV (s.drop i)).isNone)) hh (fun k h=>.inl h);clear hS hh;refine sn S ?_;intro b33 a w S;refine sap S (by simp[maxLen];omega) (by omega) ?_;rintro q2 e2 a w - S;refine J10 ?_;intro a S;rw[w6 ((i:Int)+2),encL_snocB,len_snocB out pc]at S;exact ⟨i+2,out++[pc],q2,e2,_,S.uu,⟨by omega,by simp;omega,hun.step hil hpc⟩,S.sub _ _,by omega⟩;refine kE (xte (xte (xbe (xtn (kS ?_)))));have hend:¬(i < s.length∧bd=false):=by simpa using h6
 replace S:=(S.front (Wk.row 5 1 q out.length e (encL out))).rowToGl q out (e:=5) (sz:=1) (n:=out.length) (c:=e) (fun _ _ _ _=>trivial);refine J2 ?_;intro a S;refine sr S (tdec_c out q out.length e _ w rfl (by omega) (foots_lt S) (S.mem.fact (GlF q out))) ?_;rintro _ a w ⟨z,n,e1,rfl,hzf,hcase⟩ S;replace S:=S.add hzf;refine J4 ?_;intro a S;refine sa S ?_;intro b6 a w S;refine Y20 ?_;intro a w S;refine Y14 ?_;intro a w S;have hte:=term_end hx hs hun hend (z:=z.t) (n:=n) (e:=e1) (hcase.imp (fun h=>h) (fun h=>⟨h.1,h.2.2⟩));have hh:=S.it (rI r r2 (bd||!decide (e1=0)||!decide (n=(out.length:Nat))));rw[hte.1]at hh;have hst:Stable (fun k=>k=r∨Mr k) _ (LtF z):=(S.wd.facts (LtF z) (by simp)).less fun k _ hk=>hk.elim (fun h1=>⟨rI r r2 (bd||!decide (e1=0)||!decide (n=(out.length:Nat))),by simp,h1⟩) (fun h1=>⟨ext Mr,by simp,h1⟩)
 refine end1 S (fun _=>⟨z,r2,rfl,hst,hh,hl2,hte.2⟩)
end Go.Proofs.YtlgnhhebeandkaaGreatDoor