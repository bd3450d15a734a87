/- 7: a part of this claim's texts, joined: WalP W10 WalQ WalR PlainDisk PlainWalB PlainWalC PlainWalD WalLawE WalLawF WalLawG WalLawH WalLawI WalLawJ WalLawK WalLawL WalLawM WalLawN WalLawP WalV PlainFail PlainVaultB PlainVaultC VaultG VaultH W11. -/
import Derived.Test.YtdakncgafdnjfaaGreatPm6
import Derived.SizedLaws
import Derived.OpenShut
namespace Go.Proofs.YtdakncgafdnjfaaGreat
open Go.Proofs.Tryz
open Go Go.Wk
set_option synthInstance.maxSize 100000
set_option synthInstance.maxHeartbeats 400000
set_option maxRecDepth 100000
section
variable {w0:World}{M0:Nat→Prop}{ds:List Deferred}{a:Act}{w:World}{l:List Value}{bs bs':List Wk.Item}{fs:List (World→Prop)}
theorem St.Dh (S:St w0 M0 ds a w l bs fs)(x y:Wk.Item)[hr:dD bs x y bs'][oy:cV y](hx:x.holds w)(h:x.holds w→y.holds w)(hf:∀ k,y.aj k→x.aj k)(ho:x.own=true:=by rfl):St w0 M0 ds a w l bs' fs:=
 S.lg (x:=x) (y:=y) S.slots S.defers ho (aJ.refl _ _) (h hx) (fun k hk=>.inl (hf k hk)) (oy.lt w (h hx)) oy.loc
theorem St.I7 {xs ys:List jK}(S:St w0 M0 ds a w l (dr ys::dr xs::bs) fs):St w0 M0 ds a w l (dr (xs++ys)::bs) fs:=by
 have S1:=S.aL;refine St.Dh S1 (both (dr ys) (dr xs)) (dr (xs++ys)) (S1.it (both (dr ys) (dr xs))) (fun h x hx=>?_) (fun k ⟨x,hx,h⟩=>?_);rcases List.mem_append.1 hx with hx | hx
 exact h.2.1 x hx;exact h.1 x hx;rcases List.mem_append.1 hx with hx | hx
 exact .inr ⟨x,hx,h⟩;exact .inl ⟨x,hx,h⟩
end
theorem I8 (l1 l2:List bF)(x y:bF):(aa (l1++y::l2)).take (l1.length*64)++aa x.l++(aa (l1++y::l2)).drop (l1.length*64+(aa x.l).length)=aa (l1++x::l2):=by
 have h1:(aa l1).length=l1.length*64:=by rw[aU];rfl
 have h2:(aa x.l).length=64:=x.len;have h3:(aa y.l).length=64:=y.len;have e:aa (l1++y::l2)=aa l1++(aa y.l++aa l2):=by rw[aC,bf];rfl
 rw[e,←h1,List.take_left,h2,←h3,←List.drop_drop,List.drop_left,List.drop_left,aC,bf,List.append_assoc];rfl
theorem EV:∀ n:Nat,aa (List.replicate n zB)=(List.replicate n (aa (List.replicate 64 (0:UInt8)))).flatten
 | 0=>rfl
 | n+1=>by rw[rQ,bf,rQ,List.flatten_cons,EV n];rfl
def cq (fr:Nat):Nat→Nat→DS→DS × Int × List bF
 | 0,_,s=>(s,0,[])
 | k+1,i,s=>if cS s ((fr+i:Nat):Int) false=0 then ((cq fr k (i+1) (lA s ((fr+i:Nat):Int))).1,(cq fr k (i+1) (lA s ((fr+i:Nat):Int))).2.1,EI s ((fr+i:Nat):Int)::(cq fr k (i+1) (lA s ((fr+i:Nat):Int))).2.2) else (lA s ((fr+i:Nat):Int),cS s ((fr+i:Nat):Int) false,[])
structure OW where
 n:Nat
 au:Int
 said:List (List UInt8)
 fin:Nat
def Di:OW:=⟨0,0,[],0⟩
def lC (n:Nat)(t:Int)(f:List bF)(s:DS):DS × Int × OW:=
 if (eJ t f f.length 0 0).1=[] then (s,140,Di) else
 if (jF (aB n t) (eJ t f f.length 0 0).2 f s).2=0 then ((jF (aB n t) (eJ t f f.length 0 0).2 f s).1,0,⟨n,t,(eJ t f f.length 0 0).1,(eJ t f f.length 0 0).2⟩)
 else ((jF (aB n t) (eJ t f f.length 0 0).2 f s).1,(jF (aB n t) (eJ t f f.length 0 0).2 f s).2,Di)
def mu (n:Nat)(t:Int)(s:DS):DS × Int × OW:=
 if (cq (aB n t) n 0 s).2.1=0 then lC n t (cq (aB n t) n 0 s).2.2 (cq (aB n t) n 0 s).1 else ((cq (aB n t) n 0 s).1,(cq (aB n t) n 0 s).2.1,Di)
def aR (s:DS):DS × Int × OW:=if (cw s).2.1=0 then mu (cw s).2.2.n.toNat (cw s).2.2.t (cw s).1 else ((cw s).1,(cw s).2.1,Di)
theorem EW:∀ (k i:Nat) (s:DS) (B:Bb),(B.has=true→(4≤B.n∧B.n≤1000)∧0≤B.t∧B.t≤4294967295)→(jZ k i s B).1.loose=s.loose∧((jZ k i s B).2.1=0→(jZ k i s B).2.2.has=true∧(4≤(jZ k i s B).2.2.n∧(jZ k i s B).2.2.n≤1000)∧0≤(jZ k i s B).2.2.t∧(jZ k i s B).2.2.t≤4294967295)
 | 0,i,s,B,h=>by
  rw[jZ];split
  rename_i hb;exact ⟨rfl,fun _=>⟨hb,h hb⟩⟩
  exact ⟨rfl,fun h=>by cases h⟩
 | k+1,i,s,B,h=>by
  rw[jZ];split;have h1:=EW k (i+1) (lA s i) (ew (lA s i) i (EI s i) B) (by
   unfold ew;split
   rename_i hc
   intro _;have ht:=mY ((((EI s i).l.drop 4).drop 4));simp only[sX,jY,Bool.and_eq_true,decide_eq_true_eq]at hc;exact ⟨⟨hc.1.1.1.1,hc.1.1.1.2.1⟩,ht⟩;exact h)
  rw[jh]at h1;exact h1
  rename_i he;exact ⟨jh s i,fun h=>absurd h he⟩
theorem zl (s:DS):(cw s).1.loose=s.loose∧((cw s).2.1=0→(cw s).2.2.has=true∧(4≤(cw s).2.2.n∧(cw s).2.2.n≤1000)∧0≤(cw s).2.2.t∧(cw s).2.2.t≤4294967295):=
 EW 2 0 s ⟨false,0,0⟩ (fun h=>by cases h)
def ptV:List jK→Value
 | []=>.slice none 0 0
 | y::_=>.slice y.p y.bs.length y.c
theorem I9 (b n:Nat)(au:Int)(field:List bF)(q:Option Addr)(e at_ j:Nat)(ht:0≤au∧au≤4294967295)(hj:j≤1000000)(hfl:field.length≤1000)(hfe:field.length≤e)(hat:at_≤1000000)(w0:World)(f0:Fx w0 (av q field)) :
  aT prog 148 [.agg ⟨gX b n au⟩,.slice q field.length e,.int .i64 (at_:Int),.int .i64 (j:Int)] w0 (fun _=>False) fun v w'=>
   ∃ r:List jK,v=.tuple ⟨[ptV r,.bool (!r.isEmpty)]⟩∧(dr r).holds w'∧(∀ k,(dr r).aj k→w0.heap.size≤k)∧((r=[]∧fh au field at_ j=none)∨∃ y,r=[y]∧fh au field at_ j=some y.bs):=by
 refine (I4 b n au field q e at_ j ht hj hfl hfe hat w0 f0).mono fun v w'=>?_
 rintro (⟨h1,rfl⟩ | ⟨bs,p',h1,rfl,h2,h3⟩);exact ⟨[],rfl,fun x hx=>(by cases hx),fun k ⟨x,hx,_⟩=>(by cases hx),.inl ⟨rfl,h1⟩⟩;exact ⟨[⟨p',bs.length,bs⟩],rfl,h2,h3,.inr ⟨_,rfl,h1⟩⟩
theorem PW (b m:Nat)(p:Option Addr)(c:Nat)(s:DS)(w0:World)(hl:s.loose.length≤980000)(hd:(ay b m p c s).holds w0) :
  aT prog 54 [.pointer (some ⟨b,0,none⟩)] w0 (ay b m p c s).aj fun v w'=>
   ((aR s).2.1≠0∧v=.tuple ⟨[.pointer none,.int .i64 (aR s).2.1]⟩∧∃ p' c',(ay b m p' c' (aR s).1).holds w'∧∀ k,(ay b m p' c' (aR s).1).aj k→(ay b m p c s).aj k∨w0.heap.size≤k)∨
   ((aR s).2.1=0∧∃ g p' c' q e,∃ x:WS,v=.tuple ⟨[.pointer (some ⟨g,0,none⟩),.int .i64 0]⟩∧(x.n=(aR s).2.2.n∧x.au=(aR s).2.2.au∧x.said.map jK.bs=(aR s).2.2.said∧x.fin=(aR s).2.2.fin∧x.broken=false)∧(both (ay b m p' c' (aR s).1) (jg g b q e x)).holds w'∧∀ k,(both (ay b m p' c' (aR s).1) (jg g b q e x)).aj k→(ay b m p c s).aj k∨w0.heap.size≤k):=by
 have PX:=zl s;refine E1 func54 rfl ntmps54 (Wd.bV (x:=ay b m p c s) (fs:=[]) hd (by simp)) ?_;intro a S;refine kS (kR ?_);(iterate 2 (refine sq S ?_;clear S;intro a S));refine kN (aQ (Ep (kS (kS (kR ?_)))));(iterate 2 (refine sq S ?_;clear S;intro a S));refine kN (aQ ?_);refine jS S ?_;refine kK (aQ (kS (kR (sq S ?_))));clear S;intro a S;refine cM (ay b m p c s) S (I2 b m p c s _ (by omega) (S.it (ay b m p c s))) rfl ?_;clear S;rintro _ a w ⟨rfl,p1,c1,hh,wG⟩ hS;have S:=hS (ay b m p1 c1 (cw s).1) hh wG;clear hS;refine J3 ?_;clear S;intro a S;refine sa S ?_;clear S;intro b4 a w S;refine yA ?_;clear S;intro a w S;refine kC S (fun h4=>?_) (fun h4=>?_)
 ·refine kS (kR ?_);(iterate 3 (refine sq S ?_;clear S;intro a S));refine kN (aQ (kT (tG (O8 ?_))))
  have he:(cw s).2.1≠0:=by simpa using h4
  have h1:=S.bH (ay b m p1 c1 (cw s).1) rfl;have hh:=S.it (ay b m p1 c1 (cw s).1);refine gO S (fun _=>.inl ?_);rw[aR,if_neg he];exact ⟨he,rfl,p1,c1,hh,h1⟩
 ·refine kK (aQ (kS ?_))
  have he:(cw s).2.1=0:=by simpa using h4
  obtain ⟨nw,hok⟩:=PX;obtain ⟨TM,hnr,V0⟩:=hok he;obtain ⟨n,hn⟩:∃ n:Nat,(cw s).2.2.n=(n:Int):=⟨(cw s).2.2.n.toNat,by omega⟩;obtain ⟨au,EX⟩:∃ au,au=(cw s).2.2.t:=⟨_,rfl⟩;obtain ⟨s1,dZ⟩:∃ s1,s1=(cw s).1:=⟨_,rfl⟩;have Of:aR s=mu n au s1:=by rw[aR,if_pos he,hn,Int.toNat_natCast,EX,dZ]
  rw[show Mq b (cw s).2.2=gX b n au from by rw[Mq,RM,if_pos TM,hn,EX]]at S;rw[show ([.pointer (RM b (cw s).2.2),.int .i64 (cw s).2.2.n,.int .u32 (cw s).2.2.t]:List Value)=gX b n au from by rw[RM,if_pos TM,hn,EX]]at S;rw[hn]at hnr;rw[←EX]at V0;rw[←dZ]at S nw;rw[Of];have hfr:aB n au≤1002:=by
   unfold aB;rcases (show (au % 2).toNat=0∨(au % 2).toNat=1 by omega) with h | h <;> rw[h] <;> omega
  refine J3 ?_;clear S;intro a S;refine NO n S rfl rfl (by omega) (by simp only[maxLen];omega) ?_;clear S;intro g a w S;rw[show (List.replicate n (aa (List.replicate 64 (0:UInt8)))).flatten=aa (List.replicate n zB) from (EV n).symm]at S;refine jq ?_;clear S;intro a S;refine Ez S (fun(i:Nat) (fs:List bF) (s':DS) (p':Option Addr) (c':Nat) uu=>[(2,uu 2),(0,uu 3),(1,uu 5),(1,uu 7),(19,.int .i64 (i:Nat)),(0,uu 28),(0,uu 29),(0,uu 30),(0,uu 31),(0,uu 32),(0,uu 33),(0,uu 34),(0,uu 35),(0,uu 36),(0,uu 37),(0,uu 38),(0,uu 39),(0,uu 40),(0,uu 41),(0,uu 42),(0,uu 43),(0,uu 44),(0,uu 45)]) (fun(i:Nat) (fs:List bF) (s':DS) (p':Option Addr) (c':Nat)=>[Wk.row 129 64 (some ⟨g,0,none⟩) n n (aa (fs++List.replicate (n - i) zB)),Wk.box b4 132 (gX b n au),ay b m p' c' s']) (fun(i:Nat) (fs:List bF) (s':DS) (p':Option Addr) (c':Nat)=>i≤n∧fs.length=i∧s'.loose=s1.loose∧cq (aB n au) n 0 s1=((cq (aB n au) (n - i) i s').1,(cq (aB n au) (n - i) i s').2.1,fs++(cq (aB n au) (n - i) i s').2.2)) (fun(i:Nat) (fs:List bF) (s':DS) (p':Option Addr) (c':Nat)=>n - i) (0) ([]) (s1) (p1) (c1) ?_ S.uu ?_ ?_
  ·exact ⟨by omega,rfl,rfl,rfl⟩
  ·first | exact S | exact S.sub _ _
  ·clear S;rintro i fs s' p' c' uu a w ⟨hi,Au,wS,jC⟩ S
   refine J6 ?_;clear S;intro a S;refine kC S (fun h8=>?_) (fun h8=>?_)
   ·refine kK (aQ (kS (kB (kS ?_))))
    have hi2:i < n:=by have:=of_decide_eq_true h8;omega
    have Yz:cx i n:=⟨hi2⟩;rw[show n - i=(n - (i+1))+1 from by omega,cq]at jC;refine gM ?_;clear S;intro a S;refine sr S (ze b n au (by omega) V0 _) ?_;clear S;rintro _ a w rfl S;refine J2 ?_;clear S;intro a S;rw[show IntKind.i64.wrap ((aB n au:Int)+(i:Int))=((aB n au+i:Nat):Int) from by rw[w6 _];rfl]at S;refine cM (ay b m p' c' s') S (yU b m p' c' s' ((aB n au+i:Nat):Int) _ (by rw[wS,nw];omega) (S.it (ay b m p' c' s'))) rfl ?_;clear S;rintro _ a w ⟨rfl,p2,c2,hh,hn2⟩ hS;have S:=hS (ay b m p2 c2 (lA s' ((aB n au+i:Nat):Int))) hh hn2;clear hS;obtain ⟨y,hy⟩:∃ y,y=EI s' ((aB n au+i:Nat):Int):=⟨_,rfl⟩;rw[←hy]at S jC;refine J4 ?_;clear S;intro a S;rw[show (⟨g,i*64,none⟩:Addr)=dx (some ⟨g,0,none⟩) (i*64) from by rw[dx,Option.getD_some,add_lit]]at S;refine CJ S n (by omega) (by omega) ?_;clear S;intro a w S;rw[show n - i=(n - (i+1))+1 from by omega,rQ,←Au,I8,Au,show fs++y::List.replicate (n - (i+1)) zB=(fs++[y])++List.replicate (n - (i+1)) zB from by rw[List.append_assoc];rfl]at S;refine J9 ?_;clear S;intro a S;refine kC S (fun wF=>?_) (fun wF=>?_)
    ·refine kS (kR ?_);(iterate 3 (refine sq S ?_;clear S;intro a S));refine kN (aQ (kT (Ac (tG (tG (Ac (tG (O8 ?_))))))))
     have n7:cS s' ((aB n au+i:Nat):Int) false≠0:=by simpa using wF
     rw[if_neg n7]at jC;have h1:=S.bH (ay b m p2 c2 (lA s' ((aB n au+i:Nat):Int))) rfl;have hh:=S.it (ay b m p2 c2 (lA s' ((aB n au+i:Nat):Int)));refine gO S (fun _=>.inl ?_);rw[mu,jC,if_neg n7];exact ⟨n7,rfl,p2,c2,hh,h1⟩
    ·refine J8 ?_;clear S;intro a S
     rw[show IntKind.i64.wrap ((i:Int)+1)=((i+1:Nat):Int) from by rw[w6 _];rfl]at S;have n7:cS s' ((aB n au+i:Nat):Int) false=0:=by simpa using wF
     rw[if_pos n7]at jC;exact ⟨i+1,fs++[y],lA s' ((aB n au+i:Nat):Int),p2,c2,S.uu,⟨hi2,by simp[Au],by rw[jh,wS],by rw[jC];simp⟩,S.sub _ _,by omega⟩
   ·refine kE (fT (fT (mM (aQ (kS ?_)))))
    have hi2:i=n:=by have:=of_decide_eq_false h8;omega
    subst hi2;rw[Nat.sub_self]at jC S;rw[Lj,List.append_nil]at S;have hB:mu i au s1=lC i au fs s':=by
     rw[mu,jC,cq,if_pos rfl,List.append_nil]
    rw[hB];clear hB jC Of;subst Au;replace S:=S.bA (some ⟨g,0,none⟩) fs (e:=129) (sz:=64) (n:=fs.length) (c:=fs.length) (fun _ _ _ _=>trivial);refine J3 ?_;clear S;intro a S;refine sa S ?_;clear S;intro vq a w S;refine sq S ?_;clear S;intro a S;refine kN (aQ (kS (D9 (aQ (kS (kB ?_))))));replace S:=S.cP 25 1;replace S:=St.TH S (dr []) (fun x hx=>by cases hx) (fun k ⟨x,hx,_⟩=>by cases hx);refine qI S (fun(said:List jK) (q:Option Addr) (e:Nat) (fin:Nat) (f:Nat) uu=>[(9,uu 9),(0,uu 10),(38,uu 49),(0,uu 50),(0,uu 51),(0,uu 52),(0,uu 53),(0,uu 54),(0,uu 55),(0,uu 56),(0,uu 57),(0,uu 58),(0,uu 59),(0,uu 60),(0,uu 61),(0,uu 62),(0,uu 63),(0,uu 64),(0,uu 65),(0,uu 66),(0,uu 67),(0,uu 68),(0,uu 69),(0,uu 70),(0,uu 71),(0,uu 72),(0,uu 73),(0,uu 74),(0,uu 75),(0,uu 76),(0,uu 77),(0,uu 78),(0,uu 79),(0,uu 80),(0,uu 81),(0,uu 82),(0,uu 83),(0,uu 84),(0,uu 85),(0,uu 86),(0,uu 87),(0,uu 88)]) (fun(said:List jK) (q:Option Addr) (e:Nat) (fin:Nat) (f:Nat)=>[dr said,Wk.row 25 1 q said.length e (aa said),Wk.box vq 134 (dB b q e ⟨fs.length,au,said,fin,false⟩),ay b m p' c' s']) (fun(said:List jK) (q:Option Addr) (e:Nat) (fin:Nat) (f:Nat)=>[av (some ⟨g,0,none⟩) fs]) (fun(said:List jK) (q:Option Addr) (e:Nat) (fin:Nat) (f:Nat)=>fin≤fs.length∧said.length≤fin∧fs.length≤fin+f∧eJ au fs fs.length 0 0=(said.map jK.bs++(eJ au fs f fin said.length).1,(eJ au fs f fin said.length).2)) (fun(said:List jK) (q:Option Addr) (e:Nat) (fin:Nat) (f:Nat)=>fs.length - fin) ([]) (none) (0) (0) (fs.length) ?_ S.uu ?_ ?_
    ·exact ⟨by omega,by simp,by omega,rfl⟩
    ·exact S.sub [dr [],Wk.row 25 1 none 0 0 [],Wk.box vq 134 [.pointer (some ⟨b,0,none⟩),.int .i64 (fs.length:Int),.int .u32 au,.slice none 0 0,.int .i64 0,.bool false],ay b m p' c' s'] [av (some ⟨g,0,none⟩) fs]
    ·clear S;rintro said q e fin f uu a w ⟨kr,iF,Bd,hrd⟩ S
     refine kB (kS ?_);refine bM [T9 0,T9 1,T9 2,T9 3,T9 4,T9 5,T9 6,T9 7,T9 8,T9 9,T9 10,T9 11,T9 12,T9 13,F9 14,T9 15,T9 16,T9 17,T9 18,T9 19] [] S ?_;clear S;intro w S;(iterate 14 (refine dq S ?_;clear S;intro a S));refine dl ?_;refine td S (I9 b fs.length au fs (some ⟨g,0,none⟩) fs.length fin said.length V0 (by omega) (by omega) (by omega) (by omega) _ ((S.mem.fact (av (some ⟨g,0,none⟩) fs)).less fun _ _ h=>h.elim)) ?_;clear S;rintro _ a w - ⟨r,rfl,hrh,TN,hrc⟩ hS -;have S:=hS (dr r) hrh TN;clear hS;refine de S ?_;(iterate 5 (refine dq S ?_;clear S;intro a S));refine dn (aQ (kS (kS ?_)));replace S:=St.I7 S;refine J5 ?_;clear S;intro a S;refine kC S (fun Cv=>?_) (fun Cv=>?_)
     ·refine kE (fT (Rt (fT (mM (aQ (kS (kS ?_)))))))
      have Af:r=[]∧fh au fs fin (said.length:Nat)=none:=by
       rcases hrc with h | ⟨y,rfl,-⟩
       ·exact h
       ·exact absurd Cv (by simp)
      obtain ⟨rfl,hst⟩:=Af;rw[List.append_nil]at S;rw[vn hst,List.append_nil]at hrd;refine J9 ?_;clear S;intro a S;refine kC S (fun PY=>?_) (fun PY=>?_)
      ·refine kS (kR ?_);(iterate 2 (refine sq S ?_;clear S;intro a S));refine kN (aQ (kT (tG (O8 ?_))))
       have h0:said=[]:=by simpa using PY
       subst h0;have h1:=S.bH (ay b m p' c' s') rfl;have hh:=S.it (ay b m p' c' s');have hC:lC fs.length au fs s'=(s',140,Di):=by rw[lC,hrd];exact if_pos rfl
       refine gO S (fun _=>.inl ?_);rw[hC];exact ⟨(by show (140:Int)≠0;decide),rfl,p',c',hh,h1⟩
      ·refine J7 ?_;clear S;intro a S
       have xD:said≠[]:=by simpa using PY
       have hap:¬(ay b m p' c' s').aj vq:=fun hk=>St.gj S (Wk.box vq 134 (dB b q e ⟨fs.length,au,said,fin,false⟩)) (ay b m p' c' s') vq rfl hk
       refine cM (ay b m p' c' s') S (I5 vq b m p' c' s' q e ⟨fs.length,au,said,fin,false⟩ fs (some ⟨g,0,none⟩) fs.length _ (by show fs.length≤1000;omega) rfl kr V0 (by rw[wS,nw];omega) (S.it (ay b m p' c' s')) (az.aO (S.ir vq) hap) (S.bU (ay b m p' c' s') (S.mem.fact (av (some ⟨g,0,none⟩) fs)))) rfl ?_;clear S;rintro _ a w ⟨rfl,p2,c2,hh,hn2⟩ hS;have S:=hS (ay b m p2 c2 (jF (aB fs.length au) fin fs s').1) hh hn2;clear hS;refine J9 ?_;clear S;intro a S;refine kC S (fun Lb=>?_) (fun Lb=>?_)
       ·refine kS (kR ?_);(iterate 3 (refine sq S ?_;clear S;intro a S));refine kN (aQ (kT (tG (O8 ?_))))
        have n7:(jF (aB fs.length au) fin fs s').2≠0:=by simpa using Lb
        have h1:=S.bH (ay b m p2 c2 (jF (aB fs.length au) fin fs s').1) rfl;have hh:=S.it (ay b m p2 c2 (jF (aB fs.length au) fin fs s').1);have hC:lC fs.length au fs s'=((jF (aB fs.length au) fin fs s').1,(jF (aB fs.length au) fin fs s').2,Di):=by
         rw[lC,hrd];exact (if_neg (by simpa using xD)).trans (if_neg n7)
        refine gO S (fun _=>.inl ?_);rw[hC];exact ⟨n7,rfl,p2,c2,hh,h1⟩
       ·refine kK (aQ (kS (kR ?_)));(iterate 3 (refine sq S ?_;clear S;intro a S));refine kN (aQ (kT (O8 ?_)))
        have n7:(jF (aB fs.length au) fin fs s').2=0:=by simpa using Lb
        replace S:=S.sub [dr said,Wk.row 25 1 q said.length e (aa said),Wk.box vq 134 (dB b q e ⟨fs.length,au,said,fin,false⟩),ay b m p2 c2 (jF (aB fs.length au) fin fs s').1] [];have S:=S.perm [Wk.box vq 134 (dB b q e ⟨fs.length,au,said,fin,false⟩),Wk.row 25 1 q said.length e (aa said),dr said,ay b m p2 c2 (jF (aB fs.length au) fin fs s').1] (((List.Perm.swap _ _ _).trans ((List.Perm.cons _ (List.Perm.swap _ _ _)))).trans (List.Perm.swap _ _ _));have hh:=St.iM S rfl rfl rfl rfl;have h1:=St.p_ S rfl rfl rfl rfl;have hC:lC fs.length au fs s'=((jF (aB fs.length au) fin fs s').1,0,⟨fs.length,au,said.map jK.bs,fin⟩):=by
         rw[lC,hrd];exact (if_neg (by simpa using xD)).trans (if_pos n7)
        refine gO S (fun _=>.inr ?_);rw[hC];exact ⟨rfl,vq,p2,c2,q,e,⟨fs.length,au,said,fin,false⟩,rfl,⟨rfl,rfl,rfl,rfl,rfl⟩,hh,h1⟩
     ·refine kK (aQ (kS ?_))
      obtain ⟨y,rfl,hst⟩:∃ y,r=[y]∧fh au fs fin (said.length:Nat)=some y.bs:=by
       rcases hrc with ⟨rfl,-⟩ | hy
       ·exact absurd Cv (by simp)
       ·exact hy
      rw[show ptV [y]=.slice y.p y.bs.length y.c from rfl]at S;have wR:=(mq hst).1;have hye:=xL hst;have hyp:=fW y.bs.length;refine J7 ?_;clear S;intro a S;refine sn S ?_;clear S;intro b75 a w S;refine gA S (by show said.length+1≤_;simp only[maxLen];omega) (by show (said.length+1)*24≤_;omega) ?_;clear S;rintro p7 c7 a w - S;rw[show aa said++[.slice y.p y.bs.length y.c]=aa (said++[y]) from by rw[aC];rfl,show said.length+1=(said++[y]).length from by simp]at S;refine Y5 ?_;clear S;intro a w S;refine LI (.q 0 (.q 1 (.q 2 (.q 4 (.q 5 (.b2 3 6 (.l 6 (.q 7 (.q 8 (.q 9 (.l 10 (.e)))))) (.l 3 (.q 7 (.q 8 (.q 9 (.l 10 (.e)))))))))))) S (fun  uu=>[(0,.pointer (some ⟨b,0,none⟩)),(78,uu 79),(0,uu 80),(0,uu 81),(0,uu 82),(0,uu 83),(0,uu 84),(0,uu 85),(0,uu 86),(0,uu 87),(0,uu 88)]) [dr (said++[y]),Wk.row 25 1 p7 (said++[y]).length c7 (aa (said++[y])),ay b m p' c' s'] ([dr (said++[y]),Wk.row 25 1 p7 (said++[y]).length c7 (aa (said++[y])),Wk.box vq 134 (dB b p7 c7 ⟨fs.length,au,said++[y],fin+bN y.bs.length,false⟩),ay b m p' c' s']) ([av (some ⟨g,0,none⟩) fs]) (True) ?_ ?_
      ·intro w S
       (iterate 5 (refine tq S ?_;clear S;intro a S));refine Hp ?_ ?_
       ·refine sq S ?_;clear S;intro a S;refine te S ?_;refine tl ?_;refine sr S (ke (y.bs.length:Int) _) ?_;clear S;rintro _ a w rfl S
        rw[kQ _ wR]at S;refine te S ?_;refine tq S ?_;clear S;intro a S;rw[show IntKind.i64.wrap ((fin:Int)+(bN y.bs.length:Int))=((fin+bN y.bs.length:Nat):Int) from by rw[w6 _];rfl]at S;(iterate 2 (refine tq S ?_;clear S;intro a S));refine tl (sw S ?_);clear S;intro a w S;refine te S ?_;refine tn ?_;exact ⟨S.uu,trivial,S.sub _ _⟩
       ·refine sr S (ke (y.bs.length:Int) _) ?_;clear S;rintro _ a w rfl S
        rw[kQ _ wR]at S;refine te S ?_;refine tl (sq S ?_);clear S;intro a S;refine te S ?_;refine tq S ?_;clear S;intro a S;rw[show IntKind.i64.wrap ((fin:Int)+(bN y.bs.length:Int))=((fin+bN y.bs.length:Nat):Int) from by rw[w6 _];rfl]at S;(iterate 2 (refine tq S ?_;clear S;intro a S));refine tl (sw S ?_);clear S;intro a w S;refine te S ?_;refine tn ?_;exact ⟨S.uu,trivial,S.sub _ _⟩
      clear S;rintro  uu a w - S;refine qw (aQ ?_);obtain ⟨f',rfl⟩:∃ f',f=f'+1:=⟨f - 1,by omega⟩;rw[eJ,hst]at hrd;exact ⟨said++[y],p7,c7,fin+bN y.bs.length,f',S.uu,⟨by omega,by simp;omega,by omega,by rw[hrd];simp⟩,S.sub _ _,by omega⟩
end Go.Proofs.YtdakncgafdnjfaaGreat
namespace Go.Wk
open Go
section
variable {P:Program}{r:Option Nat}{ops:Array Oper}{Q:Exit→Act→World→Prop}{w0:World}{M0:Nat→Prop}{ds:List Deferred}{a:Act}{w:World}{l:List Value}{bs bs':List Item}{fs:List (World→Prop)}
 {d:Option Nat} {ty:TypeId} {pos:String} {af:Array Edge} {rest:List Oper} {f:Nat} {x:Operand} {ts:Array TypeId} {e:Exit}
theorem Og {xs:List Operand}{fi ca vs:List Value}{l':List Value}[hx:Ev ⟨[],l⟩ x (.func (.func f) ⟨fi⟩ ⟨ca⟩)][he:Hv ⟨[],l⟩ xs vs][hp:cZ l d undef l'](S:St w0 M0 ds a w l bs fs)
  (K:∀ a,St w0 M0 ({ target:=.fn (.func f) ⟨ca⟩,args:=(fi++vs).toArray }::ds) a w l' bs fs→WL P none ops Q rest a w) :
  WL P none ops Q (⟨d,.defer { callee:=.value x,args:=xs.toArray,argTypes:=ts },ty,pos,af,none⟩::rest) a w:=by
 refine bR rfl ?_;have hf:a.eval x=.func (.func f) ⟨fi⟩ ⟨ca⟩:=S.fr.ev;have hev:xs.map a.eval=vs:=S.fr.Sb;rw[Oper.semAt_none];have:(execOp a.eval ⟨d,.defer { callee:=.value x,args:=xs.toArray,argTypes:=ts },ty,pos,af,none⟩).run P w=.ok (.defer { target:=.fn (.func f) ⟨ca⟩,args:=(fi++vs).toArray }) w:=by
  simp[execOp,resolve,hf,hev,Deferred.ofValue]
 rw[this];obtain ⟨t,dd⟩:=a;have:=S.slots;simp at this;subst this;have hd:=S.defers;simp at hd;subst hd
 show WL P none ops Q rest _ w
 rw[hp.eq];exact K _ ⟨rfl,rfl,S.wd⟩
theorem Mv {fn:Func}{c:Code}{args:List Value}{l:List Value}{R:Ending→World→Prop}{M0:Nat→Prop}{bs:List Item}{fs:List (World→Prop)}{u:FrameMode}
  (hf:P.funcs[f]? = some fn) (hb:fn.body=some c) (hl:args++List.replicate (fn.ntmps - args.length) undef=l) (hw:Wd w M0 w bs fs)
  (h:∀ a,St w M0 [] a w l bs fs→Wp P none c (bodyPost P fn R) a w):CallsDIn (FW none) 0 P f args.toArray u w fun e u' w'=>u'=u∧R e w':=by
 refine callsDIn_of_wp hf hb trivial (h _ ⟨?_,rfl,hw⟩);simp[←hl]
variable {fn:Func}{R:Value→World→Prop}
theorem EY {r1:ResultVar}{v1:Value}[hr:ax fn [r1]][h1:mP P l bs r1 v1](S:St w0 M0 [] a w l bs fs)(h:R v1 w)(he:e=.ret∨e=.normal:=by simp) :
  bodyPostDIn (FW none) 0 P fn (fun e w'=>∃ v,e=.returned v∧aJ M0 w0 w'∧R v w') e a w:=by
 have key:LeavesIn (FW none) 0 P fn a.tmps (fun e w'=>∃ v,e=.returned v∧aJ M0 w0 w'∧R v w') a.defers .returning w:=by
  rw[S.defers];refine ⟨v1,?_,v1,rfl,S.wd.agree,h⟩;rw[S.slots,eE (rs:=[r1])];simp[fQ (P:=P) (l:=l) (bs:=bs) (rv:=r1) (v:=v1) w S.wd.held]
 rcases he with rfl | rfl <;> exact key
theorem tV {g:Nat}{ca vs:List Value}(x y:Item)[hri:dD bs x y bs'][oy:cV y][he:aF P g]{r1:ResultVar}{v1:Value}[hr:ax fn [r1]][h1:mP P l bs' r1 v1]
  (S:St w0 M0 [{ target:=.fn (.func g) ⟨ca⟩,args:=vs.toArray }] a w l bs fs) (Rx:x.own=true)
  (hc:CallsDIn (FW none) 0 P g (vs++ca).toArray .returning w fun e u' w'=>u'=.returning∧∃ v,e=.returned v∧aJ x.aj w w'∧y.holds w')
  (hf:∀ k,y.aj k→x.aj k) (h:∀ w',Wd w0 M0 w' bs' fs→R v1 w') (hx:e=.ret∨e=.normal:=by simp) :
  bodyPostDIn (FW none) 0 P fn (fun e w'=>∃ v,e=.returned v∧aJ M0 w0 w'∧R v w') e a w:=by
 have key:LeavesIn (FW none) 0 P fn a.tmps (fun e w'=>∃ v,e=.returned v∧aJ M0 w0 w'∧R v w') a.defers .returning w:=by
  rw[S.defers];refine leavesIn_cons (f:=g) (args:=(vs++ca).toArray) (by simp) (fun h=>by cases h) ?_ (fun _ _=>trivial) (hc.mono ?_)
  ·have:=he.run (vs++ca).toArray w
   simpa [invoke] using this
  ·rintro e u' w' ⟨rfl,v,rfl,iR,hy⟩
   have hO:Wd w0 M0 w' bs' fs:=by
    obtain ⟨pre,post,q1,q2⟩:=hri.ex;have hO:=S.wd;rw[q1]at hO;rw[q2];exact hO.swap Rx iR hy (fun k hk=>.inl (hf k hk)) (oy.lt w' hy) oy.loc
   refine ⟨v1,?_,v1,rfl,hO.agree,h w' hO⟩;rw[S.slots,eE (rs:=[r1])];simp[fQ (P:=P) (l:=l) (bs:=bs') (rv:=r1) (v:=v1) w' hO.held]
 rcases hx with rfl | rfl <;> exact key
end
section
variable {P:Program}{ops:Array Oper}{md:Region.Mode}{C:World→Prop}
def TO (last:Nat)(P:Program)(ops:Array Oper)(C:World→Prop)(R:Act→World→Prop):Nat→Array Bool→Act→World→Prop
 | 0,listed,a,w=>Region.ready .any ops listed=[]∧R a w
 | fuel+1,listed,a,w=>
  (Region.ready .any ops listed=[]→R a w)∧
  ∀ i∈Region.ready .any ops listed,WN P ops i (fun a' w'=>(i≠last→C w')∧TO last P ops C R fuel (listed.setIfInBounds i true) a' w') a w
variable {R:Act→World→Prop}
theorem Gg {last i:Nat}{oi:Oper}{v:Value}(hi:ops[i]? = some oi)(hsel:∀ (j:Nat) (o:Oper) cs b,ops[j]? = some o→o.op≠.select cs b) :
  (i≠last∧∀ o,ops[last]? = some o→∃ e∈o.after,Region.binds .any e=true∧e.on=i)→∀ (fuel:Nat) (listed:Array Bool) (a:Act) (w:World),
   (∀ j oj,ops[j]? = some oj→j≠i→listed.getD j true=false→(∀ e∈oj.after,Region.binds .any e=true→e.on≠i)→oi.apart ops oj=true)→
   i∈Region.ready .any ops listed→dG P ops C oi v a→C w→
   TO last P ops C R fuel (listed.setIfInBounds i true) (a.put oi.dst v) w→TO last P ops C R (fuel+1) listed a w:=by
 intro nC fuel
 induction fuel with
 | zero=>
  intro listed a w _ hr hy hS H;refine ⟨fun h=>(by rw[h]at hr;cases hr),fun j hj=>?_⟩
  by_cases hji:j=i
  ·subst hji;exact hy.wn hi hS ⟨fun _=>hS,H⟩
  ·have:=ready_mono hj hji
   rw[H.1]at this;cases this
 | succ fuel ih=>
  intro listed a w hfree hr hy hS H;refine ⟨fun h=>(by rw[h]at hr;cases hr),fun j hj=>?_⟩
  by_cases hji:j=i
  ·subst hji;exact hy.wn hi hS ⟨fun _=>hS,H⟩
  ·have h1:=H.2 j (ready_mono hj hji)
   obtain ⟨uk,oj,tJ,hall⟩:=mem_ready.1 hj;have hnot:∀ e∈oj.after,Region.binds .any e=true→e.on≠i:=fun e he hb heq=>by
    have h1:=hall e he hb;have h0:=(mem_ready.1 hr).1;rw[heq]at h1;rcases Nat.lt_or_ge i listed.size with h' | h'
    ·simp[h']at h0 h1;rw[h0]at h1;cases h1
    ·simp[Array.getElem?_eq_none h']at h1
   have hjl:j≠last:=fun e=>by
    obtain ⟨e',he',hb',ho'⟩:=nC.2 oj (e▸tJ);exact hnot e' he' hb' ho'
   have h2:=CF tJ (hfree j oj tJ hji uk hnot) (fun cs b=>hsel i oi cs b hi) (fun cs b=>hsel j oj cs b tJ) hy h1;have pQ:∀ k ok,ops[k]? = some ok→k≠i→(listed.setIfInBounds j true).getD k true=false→
     (∀ e∈ok.after,Region.binds .any e=true→e.on≠i)→oi.apart ops ok=true:=fun k ok hk hki hun hno=>by
    refine hfree k ok hk hki ?_ hno
    by_cases Hx:j=k
    ·subst Hx;exact uk
    ·rw[getD_set_ne true Hx]at hun;exact hun
   refine wpOpIn_mono (fun a' w' h3=>⟨h3.2.1,ih (listed.setIfInBounds j true) a' w' pQ (ready_mono hr (Ne.symm hji)) h3.1 (h3.2.1 hjl) ?_⟩) h2;rw[Array.setIfInBounds_comm _ _ hji];exact h3.2.2
variable {r:Option Nat}{Q:Exit→Act→World→Prop}{w0:World}{M0:Nat→Prop}{ds:List Deferred}{a:Act}{w:World}{l l':List Value}{bs bs' eD:List Item}{fs dz:List (World→Prop)}
 {d:Option Nat} {op:Op} {ty:TypeId} {pos:String} {af:Array Edge} {rest:List Oper} {v v' G:Value} {j g:Nat} {kZ:Bool} {cs:List Bool} {n:Nat} {listed:Array Bool}
def vr (ops:Array Oper)(last i:Nat):Bool:=(!Nat.beq i last)&&(match ops[last]? with | some o=>o.after.toList.any fun e=>Region.binds .any e&&Nat.beq e.on i | none=>false)
theorem mZ {ops:Array Oper}{last i:Nat}(h:vr ops last i=true):i≠last∧∀ o,ops[last]? = some o→∃ e∈o.after,Region.binds .any e=true∧e.on=i:=by
 simp only[vr,Bool.and_eq_true,Bool.not_eq_true']at h;refine ⟨fun e=>(by rw[e,Nat.beq_refl]at h;cases h.1),fun o ho=>?_⟩;rw[ho]at h;obtain ⟨e,he,h2⟩:=List.any_eq_true.1 h.2;simp only[Bool.and_eq_true]at h2;exact ⟨e,by simpa using he,h2.1,Nat.eq_of_beq_eq_true h2.2⟩
def d_ (last:Nat)(ops:Array Oper):List (Nat × Bool)→Array Bool→Bool
 | [],listed=>(Region.ready .any ops listed).isEmpty
 | (i,true)::ord,listed=>(((Region.ready .any ops listed).contains i&&Region.free .any ops listed i)&&vr ops last i)&&d_ last ops ord (listed.setIfInBounds i true)
 | (i,false)::ord,listed=>(match Region.ready .any ops listed with | [j]=>Nat.beq j i | _=>false)&&d_ last ops ord (listed.setIfInBounds i true)
def Oh (last:Nat)(P:Program)(ops:Array Oper)(C:World→Prop)(R:Act→World→Prop)(ord:List (Nat × Bool))(a:Act)(w:World):Prop:=
 ∀ listed,Region.noSelect ops=true→d_ last ops ord listed=true→TO last P ops C R ord.length listed a w
variable {ord:List (Nat × Bool)}{i last:Nat}
theorem qW (S:St w0 M0 ds a w l bs fs)[hb:dj eD bs][hf:dj dz fs][ho:jL ops i ⟨d,op,ty,pos,af,none⟩][hq:dO P op ty ⟨[],l⟩ eD dz v][hp:cZ l d v l']
  (K:∀ a,St w0 M0 ds a w l' bs fs→Oh last P ops (fun w=>Wd w0 M0 w eD dz) R ord a w) :
  Oh last P ops (fun w=>Wd w0 M0 w eD dz) R ((i,true)::ord) a w:=by
 intro listed hs aS;simp only[d_,Bool.and_eq_true]at aS;refine Gg ho.eq (Region.noSelect_spec hs) (mZ aS.1.2) _ listed a w (Region.free_spec ho.eq aS.1.1.2) (by simpa using aS.1.1.1) (v:=v) (.inl ⟨rfl,fun w' bP=>?_⟩) (S.wd.sub hb.sub hf.sub) (K _ S.put _ hs aS.2);rw[gN];exact hq.run a.eval w' S.fr bP.mem
theorem mw {o:Oper}{C:World→Prop}[ho:jL ops i o](h:WL P none ops (fun e a' w'=>e=.normal∧(i≠last→C w')∧Oh last P ops C R ord a' w') [o] a w):Oh last P ops C R ((i,false)::ord) a w:=by
 intro listed hs aS;simp only[d_,Bool.and_eq_true]at aS;have hr:Region.ready .any ops listed=[i]:=by
  have:=aS.1;split at this
  ·rename_i k hk;rw[hk,Nat.eq_of_beq_eq_true this]
  ·cases this
 refine ⟨fun h0=>(by rw[h0]at hr;cases hr),fun k hk=>?_⟩;rw[hr]at hk;obtain rfl:k=i:=by simpa using hk
 unfold WN wpOpIn;simp only[ho.eq];simp only[WL,wpListIn]at h;split
 ·rename_i hw
  rw[if_pos hw]at h;refine ⟨fun _ _=>trivial,?_⟩;have h:=h.2
  generalize (o.semAt (FW none).round a.eval).run P w=q at *
  cases q with
  | ok x w'=>
   cases x <;> simp only[Oper.uponIn]at h⊢
   case value u=>exact ⟨h.2.1,h.2.2 _ hs aS.2⟩
   case skip=>exact ⟨h.2.1,h.2.2 _ hs aS.2⟩
   case defer d=>exact ⟨h.2.1,h.2.2 _ hs aS.2⟩
   case enter f args=>
    refine ⟨h.1,CallsIn.mono h.2 fun e w'' he=>?_⟩;cases e with
    | returned u=>exact ⟨he.2.1,he.2.2 _ hs aS.2⟩
    | panicked c=>exact absurd he.1 (by simp)
    | outgrown=>obtain ⟨_,_,he,_⟩:=he;exact absurd he (by simp)
   case row row args=>exact ⟨h.1,RowsIn.mono h.2 fun u w'' he=>⟨he.2.1,he.2.2 _ hs aS.2⟩⟩
   case round l f tmps assign body=>
    refine ⟨h.1,RoundIn.mono h.2 fun e w'' he=>?_⟩;cases e with
    | returned u=>exact ⟨he.2.1,he.2.2 _ hs aS.2⟩
    | panicked c=>exact absurd he.1 (by simp)
    | outgrown=>obtain ⟨_,_,he,_⟩:=he;exact absurd he (by simp)
  | halt x w'=>
   cases x <;> simp only[Oper.uponIn]at h⊢
   case panic u=>exact absurd h.1 (by simp)
 ·rename_i hw
  rw[if_neg hw]at h;exact ⟨fun _ _=>trivial,h.2.2.1,h.2.2.2 _ hs aS.2⟩
theorem qx [hb:dj eD bs][hf:dj dz fs](S:St w0 M0 ds a w l bs fs)(h:Oh last P ops (fun w=>Wd w0 M0 w eD dz) R ord a w):WL P none ops (fun e a' w'=>e=.normal∧(i≠last→Wd w0 M0 w' eD dz)∧Oh last P ops (fun w=>Wd w0 M0 w eD dz) R ord a' w') [] a w:=
 kN ⟨rfl,fun _=>S.wd.sub hb.sub hf.sub,h⟩
theorem I_ {C:World→Prop}(h:R a w)(hr:∀ listed,Region.noSelect ops=true→d_ last ops [] listed=true→Region.ready .any ops listed=[]:=by intro listed _ h;simpa [d_] using h):WL P none ops (fun e a' w'=>e=.normal∧(last≠last→C w')∧Oh last P ops C R [] a' w') [] a w:=
 kN ⟨rfl,fun h=>absurd rfl h,fun listed hs hf=>⟨hr listed hs hf,h⟩⟩
theorem vt (hd:∀ (i:Nat) o,ops[i]? = some o→cE o.op=false):∀ (fuel:Nat) (listed:Array Bool) (a:Act) (w:World),TO last P ops C (fun a w=>Q .normal a w) fuel listed a w→wpAnyIn (FW r) 0 P .any ops Q fuel listed a w
 | 0,_,_,_,h=>h
 | fuel+1,_,_,_,h=>⟨h.1,fun i hi=>um hd (wpOpIn_mono (fun a' w' h'=>vt hd fuel _ a' w' h'.2) (h.2 i hi))⟩
theorem iN {id:Nat}{lo:List Oper}(last:Nat)(ord:List (Nat × Bool))(eD:List Item)(S:St w0 M0 ds a w l bs fs)(h:∀ w,St w0 M0 ds a w l bs fs→Oh last P lo.toArray (fun w=>Wd w0 M0 w eD fs) (fun a w=>Q .normal a w) ord a w)
  (hm:P.follows .mixedOrders=true:=by kernel_rfl) (hd:((lo.all fun o=>!cE o.op)&&(Nat.beq ord.length lo.length&&(Region.noSelect lo.toArray&&d_ last lo.toArray ord (Array.replicate lo.length false))))=true:=by kernel_rfl):Wp P r (.region id lo.toArray true) Q a w:=by
 simp only[Bool.and_eq_true]at hd;refine wpIn_region_any hm (vt (last:=last) (C:=fun w=>Wd w0 M0 w eD fs) (fun i o ho=>?_) _ _ _ _ ?_);have:=List.all_eq_true.1 hd.1 o (by
  rw[List.getElem?_toArray]at ho;exact List.mem_of_getElem? ho)
 simpa using this;have:=h { w with drawn:=w.drawn+1 } ⟨S.slots,S.defers,S.wd.step (aJ.drawn _ w _)⟩ _ hd.2.2.1 hd.2.2.2;rw[Nat.eq_of_beq_eq_true hd.2.1]at this;simpa using this
end
end Go.Wk
namespace Go.Proofs.YtdakncgafdnjfaaGreat
open Go.Proofs.Tryz
open Go Go.Wk
set_option synthInstance.maxSize 100000
set_option synthInstance.maxHeartbeats 400000
set_option maxRecDepth 100000
theorem qX (g r b:Nat)(q:Option Addr)(e:Nat)(x:WS)(v:Int)(u:FrameMode)(w0:World)(hb:(Wk.box g 134 (dB b q e x)).holds w0)(hr:ag (fun k=>k=g) w0 (az r 26 [.int .i64 v])) :
  CallsDIn (FW none) 0 prog 79 [.pointer (some ⟨g,0,none⟩),.pointer (some ⟨r,0,none⟩)].toArray u w0 fun e' u' w'=>u'=u∧∃ v',e'=.returned v'∧aJ (fun k=>k=g) w0 w'∧(Wk.box g 134 (dB b q e (mW x v))).holds w':=by
 refine Mv func79 rfl rfl (Wd.bV (x:=Wk.box g 134 (dB b q e x)) (fs:=[az r 26 [.int .i64 v]]) hb (by intro Φ hΦ;obtain rfl:=List.mem_singleton.1 hΦ;exact hr)) (fun a S=>?_);refine E0 ntmps79 ?_;intro S;refine J8 ?_;intro a S;refine kC S (fun h0=>?_) (fun h0=>?_);refine Y6 ?_;intro a w S;have h:v≠0:=by simpa using h0
 have hh:=S.box g;refine iD (R:=fun _ w'=>(Wk.box g 134 (dB b q e (mW x v))).holds w') S (fun _=>?_);rw[show mW x v = { x with broken:=true } from by simp[mW,h]];exact hh;refine kK ?_;have h:v=0:=by simpa using h0
 have hh:=S.box g;refine iD (R:=fun _ w'=>(Wk.box g 134 (dB b q e (mW x v))).holds w') S (fun _=>?_);rw[show mW x v=x from by simp[mW,h]];exact hh
section
variable {w0:World}{M0:Nat→Prop}{ds:List Deferred}{a:Act}{w:World}{l:List Value}{bs bs':List Wk.Item}{fs:List (World→Prop)}
theorem St.Oi {x:Wk.Item}{ys:List jK}(S:St w0 M0 ds a w l bs fs)(hap:∀ k,(dr ys).aj k→¬x.aj k)[pJ bs (dr ys)]{y:jK}(hy:y∈ys):ag x.aj w (av y.p y.bs):=by
 have h:=(S.it (dr ys)) y hy;exact fun w' ha=>zf (fun ad hp=>ha.iB (h.1 ad hp) (hap ad.block ⟨y,hy,ad,hp,rfl⟩)) h.2
theorem zm {y:jK}{e:TypeId}(h:(Wk.row e 1 y.p y.bs.length y.c (aa y.bs)).holds w):(dr [y]).holds w:=fun x hx=>by
 obtain rfl:=List.mem_singleton.1 hx;exact ⟨fun ad hp=>bS h ad.block ⟨ad,hp,rfl⟩,(gJ (M:=fun _=>False) h (fun _ _ _ _=>trivial) (fun _ _ h=>h)).now⟩
theorem St.Ja (S:St w0 M0 ds a w l bs fs)(y:jK){e:TypeId}[hr:dD bs (Wk.row e 1 y.p y.bs.length y.c (aa y.bs)) (dr [y]) bs'](h:(Wk.row e 1 y.p y.bs.length y.c (aa y.bs)).holds w):St w0 M0 ds a w l bs' fs:=
 St.Dh S (Wk.row e 1 y.p y.bs.length y.c (aa y.bs)) (dr [y]) h zm (fun k ⟨x,hx,ad,hp,hk⟩=>by obtain rfl:=List.mem_singleton.1 hx;exact ⟨ad,hp,hk.symm⟩)
theorem St.Mw {w0:World}{M0:Nat→Prop}{w:World}{bs:List Wk.Item}{fs:List (World→Prop)}(h:Wd w0 M0 w bs fs):St w0 M0 [] ⟨#[],[]⟩ w [] bs fs:=⟨rfl,rfl,h⟩
end
def iO (x:WS)(bs:List UInt8):Int:=if jD x bs=0 then (if x.n - x.fin < bN bs.length then 6 else 0) else jD x bs
theorem oQ {x:WS}{bs:List UInt8}(h:jD x bs=0):bs.length≤40000∧x.broken=false:=by
 unfold jD at h;split at h;cases h;split at h;cases h;exact ⟨by omega,by rename_i h2;simpa using h2⟩
def zn (x:WS)(y:jK)(r:Int):WS:=if r=0 then { x with said:=x.said++[y],fin:=x.fin+bN y.bs.length } else { x with broken:=true }
theorem Jb (g b m:Nat)(p:Option Addr)(c:Nat)(s:DS)(q:Option Addr)(e:Nat)(x:WS)(y:jK)(w0:World)(hn:x.n≤1000)(I6:x.fin≤x.n)(wS:x.said.length≤1000000∧x.said.length≤e)(hs0:0 < x.said.length)(ht:0≤x.au∧x.au≤4294967295)(wR:y.bs.length≤10000000)(hl:s.loose.length≤980000)
  (hd:(both (ay b m p c s) (jg g b q e x)).holds w0) (f0:ag (both (ay b m p c s) (jg g b q e x)).aj w0 (av y.p y.bs)) :
  aT prog 20 [.pointer (some ⟨g,0,none⟩),.slice y.p y.bs.length y.c] w0 (both (ay b m p c s) (jg g b q e x)).aj fun v w'=>
   (iO x y.bs≠0∧v=.int .i64 (iO x y.bs)∧(both (ay b m p c s) (jg g b q e x)).holds w')∨
   (iO x y.bs=0∧v=.int .i64 (bg s ((aB x.n x.au+x.fin:Nat):Int) (aG x.au (x.said.length:Int) y.bs)).2∧∃ p' c' q' e',∃ y':jK,y'.bs=y.bs∧(x.said.length≤e')∧
    (both (ay b m p' c' (bg s ((aB x.n x.au+x.fin:Nat):Int) (aG x.au (x.said.length:Int) y.bs)).1) (jg g b q' e' (zn x y' (bg s ((aB x.n x.au+x.fin:Nat):Int) (aG x.au (x.said.length:Int) y.bs)).2))).holds w'∧
    ∀ k,(both (ay b m p' c' (bg s ((aB x.n x.au+x.fin:Nat):Int) (aG x.au (x.said.length:Int) y.bs)).1) (jg g b q' e' (zn x y' (bg s ((aB x.n x.au+x.fin:Nat):Int) (aG x.au (x.said.length:Int) y.bs)).2))).aj k→(both (ay b m p c s) (jg g b q e x)).aj k∨w0.heap.size≤k):=by
 have hfr:aB x.n x.au≤1002:=by
  unfold aB;rcases (show (x.au % 2).toNat=0∨(x.au % 2).toNat=1 by omega) with h | h <;> rw[h] <;> omega
 refine CV func20 rfl rfl (Wd.ig (x:=ay b m p c s) (y:=jg g b q e x) (fs:=[av y.p y.bs]) hd rfl rfl (by intro Φ hΦ;obtain rfl:=List.mem_singleton.1 hΦ;exact f0)) (fun a S=>?_);refine E0 ntmps20 ?_;intro S;replace S:=S.front (jg g b q e x);replace S:=St.uV S;refine kS (kR ?_);refine sa S ?_;intro b4 a w S;refine J7 ?_;intro a S;refine sr S (xH g b q e x y _ (az.aO (S.ir g) (fun h=>h))) ?_;rintro _ a w rfl S;refine J9 ?_;intro a S;refine kC S (fun h2=>?_) (fun h2=>?_)
 ·refine Y8 ?_;intro a w S
  have he:jD x y.bs≠0:=by simpa using h2
  have hR:iO x y.bs=jD x y.bs:=by rw[iO,if_neg he]
  have hh:=St.iM (S.sub [Wk.box g 134 (dB b q e x),Wk.row 25 1 q x.said.length e (aa x.said),dr x.said,ay b m p c s] []) rfl rfl rfl rfl;refine EY S (.inl ?_);rw[hR];exact ⟨he,rfl,hh⟩
 ·refine kK (aQ (kS ?_))
  have he:jD x y.bs=0:=by simpa using h2
  obtain ⟨RP,hbk⟩:=oQ he;refine J3 ?_;intro a S;refine sr S (ke (y.bs.length:Int) _) ?_;rintro _ a w rfl S;rw[kQ _ RP]at S;refine J5 ?_;intro a S;refine bM [T9 0,T9 1,T9 2,T9 3,T9 4,T9 5,T9 6,T9 7,T9 8,T9 9,T9 10,T9 11] [] S ?_;intro w S;(iterate 12 (refine dq S ?_;intro a S));refine dn (aQ ?_);refine kC S (fun h5=>?_) (fun h5=>?_)
  ·refine Y7 ?_;intro a w S
   have hro:x.n - x.fin < bN y.bs.length:=by
    have:=of_decide_eq_true h5;rw[w6 _]at this;omega
   have hR:iO x y.bs=6:=by rw[iO,if_pos he,if_pos hro]
   have hh:=St.iM (S.sub [Wk.box g 134 (dB b q e x),Wk.row 25 1 q x.said.length e (aa x.said),dr x.said,ay b m p c s] []) rfl rfl rfl rfl;refine EY S (.inl ?_);rw[hR];exact ⟨by decide,rfl,hh⟩
  ·refine kK (aQ (kS ?_))
   have hro:¬x.n - x.fin < bN y.bs.length:=by
    have:=of_decide_eq_false h5;rw[w6 _]at this;omega
   refine kR (sq S ?_);intro a S;refine Og S ?_;intro a S;refine kN (aQ (kS (kR (sq S ?_))));intro a S;replace S:=S.cP 5 1;refine gA S (by simp only[maxLen];omega) (by omega) ?_;rintro p8 c8 a w - S;rw[show ([]:List Value)++aa y.bs=aa y.bs from rfl,Nat.zero_add]at S;have YU:=gm (S.row p8 y.bs.length);replace S:=St.Ja S ⟨p8,c8,y.bs⟩ (S.row p8 y.bs.length);obtain ⟨y',hy'⟩:∃ y':jK,y'=⟨p8,c8,y.bs⟩:=⟨_,rfl⟩;rw[←hy']at S;obtain ⟨R,hR⟩:∃ R,R=bg s ((aB x.n x.au+x.fin:Nat):Int) (aG x.au (x.said.length:Int) y.bs):=⟨_,rfl⟩;have Jc:iO x y.bs=0:=by rw[iO,if_pos he,if_neg hro]
   have Gd:(aG x.au (x.said.length:Int) y.bs).length≤834:=by rw[bB];exact tU _ RP
   refine J5 ?_;intro a S;refine iN 29 [T9 0,T9 1,T9 2,T9 3,T9 4,T9 5,T9 6,T9 7,T9 8,T9 10,T9 11,T9 12,T9 13,T9 15,T9 16,T9 17,T9 18,T9 19,T9 20,T9 21,T9 22,T9 23,T9 24,T9 25,T9 26,F9 9,T9 14,F9 27,F9 28,F9 29] [Wk.box g 134 (dB b q e x)] S ?_;intro w S;(iterate 24 (refine qW S ?_;intro a S));rw[wT (x.said.length:Int) (by omega) (by omega)]at S;refine qW S ?_;intro a S;refine mw ?_;refine sr S (ze b x.n x.au hn ht _) ?_;rintro _ a w rfl S;refine qx S ?_;refine qW S ?_;intro a S;rw[show IntKind.i64.wrap ((aB x.n x.au:Int)+(x.fin:Int))=((aB x.n x.au+x.fin:Nat):Int) from by rw[w6 _];rfl]at S;refine mw ?_;have hlt:=a_ S;refine sr S (vl x.au (x.said.length:Int) p8 y.bs.length c8 _) ?_;rintro _ a w ⟨h0,h1,NR,rfl,⟨n0,n1,n2⟩,e0,e1,e2⟩ S;replace S:=S.add (Φ:=az h0 25 [.slice p8 y.bs.length c8]) (az.aO e0 (fun hm=>by have:=hlt _ hm;omega));replace S:=S.add (Φ:=az h1 130 [.int .u32 x.au]) (az.aO e1 (fun hm=>by have:=hlt _ hm;omega));replace S:=S.add (Φ:=az NR 130 [.int .u32 (x.said.length:Int)]) (az.aO e2 (fun hm=>by have:=hlt _ hm;omega));refine qx S ?_;refine mw ?_;have wK:ag (ay b m p c s).aj w (av y'.p y'.bs):=St.Oi S (fun k hk hk2=>St.gj S (dr [y']) (ay b m p c s) k hk hk2) (by simp);rw[hy']at wK;refine cM (ay b m p c s) S (ER 177 [.pointer (some ⟨h0,0,none⟩),.pointer (some ⟨h1,0,none⟩),.pointer (some ⟨NR,0,none⟩)] (aG x.au (x.said.length:Int) y.bs) b m p c s (aB x.n x.au+x.fin) [av p8 y.bs,az NR 130 [.int .u32 (x.said.length:Int)],az h1 130 [.int .u32 x.au],az h0 25 [.slice p8 y.bs.length c8]] _ (by omega) (by omega) (S.it (ay b m p c s)) (fun Φ hΦ=>by
    rcases List.mem_cons.1 hΦ with rfl | hΦ
    ·exact wK
    ·exact S.bU (ay b m p c s) (S.wd.facts Φ (List.mem_append_left _ hΦ))) (fun M w1 hM hF=>rZ x.au (x.said.length:Int) ht (by omega) h0 h1 NR y.bs p8 c8 RP YU w1 M hM (hF _ (by simp)) (hF _ (by simp)) (hF _ (by simp)) (hF _ (by simp)))) rfl ?_;clear S wK;rintro _ a w ⟨rfl,p2,c2,hh,hn2⟩ hS
   have S:=hS (ay b m p2 c2 (bg s ((aB x.n x.au+x.fin:Nat):Int) (aG x.au (x.said.length:Int) y.bs)).1) hh hn2;clear hS;rw[←hR]at S;refine qx S ?_;refine mw (sw S ?_);intro a w S;refine I_ (aQ (kS (kR ?_)));(iterate 2 (refine sq S ?_;intro a S));refine kN (aQ ?_);refine kC S (fun gi=>?_) (fun gi=>?_)
   ·refine kS ?_
    have zo:R.2=0:=of_decide_eq_true gi;obtain ⟨gq,cur,hq,-⟩:=eB (S.row q x.said.length) hs0;have YD:eS x.said.length e:=⟨wS.2⟩;have hLl:eS x.said.length x.said.length:=⟨Nat.le_refl _⟩;have Mh:eS 0 x.said.length:=⟨Nat.zero_le _⟩;subst hq;refine iN 21 [T9 0,T9 1,T9 2,T9 3,T9 4,T9 5,T9 6,T9 7,T9 8,T9 9,T9 10,T9 11,T9 12,T9 13,T9 14,T9 15,T9 16,F9 17,F9 18,F9 19,T9 20,F9 21] [Wk.box g 134 (dB b (some ⟨gq,0,none⟩) e x)] S ?_;intro w S;(iterate 17 (refine qW S ?_;intro a S));refine mw (sn S ?_);intro b80 a w S;refine qx S ?_;refine mw ?_;have hrow:=S.row (some ⟨gq,0,none⟩) x.said.length;refine TA ⟨gq,0,none⟩ x.said.length (aa x.said) S (by rw[aU];rfl) (fun j u hj=>(jc hrow).2 _ rfl j u hj) (by omega) (by simp only[maxLen];omega) (by omega) ?_;clear S;intro g2 wW a w S;rw[show aa x.said++[.slice p8 y.bs.length c8]=aa (x.said++[y']) from by rw[hy',aC];rfl]at S;refine qx S ?_;refine mw (sq S ?_);intro a S;refine qx S ?_;refine qW S ?_;intro a S;refine mw (sw S ?_);intro a w S;refine I_ (aQ (kR ?_));(iterate 6 (refine sq S ?_;intro a S));rw[show IntKind.i64.wrap ((x.fin:Int)+(bN y.bs.length:Int))=((x.fin+bN y.bs.length:Nat):Int) from by rw[w6 _];rfl]at S;refine uh ?_;intro a w S;obtain ⟨x',hx'⟩:∃ x':WS,x' = { x with said:=x.said++[y'],fin:=x.fin+bN y.bs.length }:=⟨_,rfl⟩;have TP:y'.bs=y.bs:=by rw[hy']
    have hap:zn x y' R.2=x':=by rw[zn,if_pos zo,hx',TP]
    have pL:mW x' R.2=x':=by rw[mW,zo];simp
    replace S:=S.sub [Wk.row 25 1 (some ⟨g2,0,none⟩) (x.said.length+1) wW (aa (x.said++[y'])),dr [y'],Wk.box b4 26 [.int .i64 R.2],Wk.box g 134 [.pointer (some ⟨b,0,none⟩),.int .i64 (x.n:Int),.int .u32 x.au,.slice (some ⟨g2,0,none⟩) (x.said.length+1) wW,.int .i64 ((x.fin+bN y.bs.length:Nat):Int),.bool x.broken],dr x.said,ay b m p2 c2 R.1] [];replace S:=S.front (dr x.said);replace S:=S.front (dr [y']);replace S:=St.I7 S;rw[show x.said.length+1=x'.said.length from by rw[hx'];simp]at S;replace S:=St.items S (bs':=[dr x'.said,Wk.row 25 1 (some ⟨g2,0,none⟩) x'.said.length wW (aa x'.said),Wk.box b4 26 [.int .i64 R.2],Wk.box g 134 (dB b (some ⟨g2,0,none⟩) wW x'),ay b m p2 c2 R.1]) (by rw[hx']);have Ak:=gm (S.row (some ⟨g2,0,none⟩) x'.said.length);have hne:¬b4=g:=St.gj S (Wk.box b4 26 [.int .i64 R.2]) (Wk.box g 134 (dB b (some ⟨g2,0,none⟩) wW x')) b4 rfl;refine tV (Wk.box g 134 (dB b (some ⟨g2,0,none⟩) wW x')) (Wk.box g 134 (dB b (some ⟨g2,0,none⟩) wW (mW x' R.2))) S rfl ((qX g b4 b (some ⟨g2,0,none⟩) wW x' R.2 .returning w (S.box g) (az.aO (S.ir b4) hne)).mono fun _ _ _ h=>h) (fun _ h=>h) (fun w' hO=>?_);rw[pL]at hO;have S2:=(St.Mw hO).sub [dr x'.said,Wk.row 25 1 (some ⟨g2,0,none⟩) x'.said.length wW (aa x'.said),Wk.box g 134 (dB b (some ⟨g2,0,none⟩) wW x'),ay b m p2 c2 R.1] [];have S3:=S2.perm [Wk.box g 134 (dB b (some ⟨g2,0,none⟩) wW x'),Wk.row 25 1 (some ⟨g2,0,none⟩) x'.said.length wW (aa x'.said),dr x'.said,ay b m p2 c2 R.1] (((List.Perm.swap _ _ _).trans ((List.Perm.cons _ (List.Perm.swap _ _ _)))).trans (List.Perm.swap _ _ _))
    have hh:=St.iM S3 rfl rfl rfl rfl;have h1:=St.p_ S3 rfl rfl rfl rfl;refine .inr ⟨Jc,by rw[hR],p2,c2,some ⟨g2,0,none⟩,wW,y',TP,by rw[hx']at Ak;simp at Ak;omega,?_⟩;rw[←hR,hap];exact ⟨hh,h1⟩
   ·refine Y9 ?_;intro a w S
    have zo:R.2≠0:=of_decide_eq_false gi;have hap:zn x y' R.2 = { x with broken:=true }:=by rw[zn,if_neg zo]
    have pL:mW x R.2 = { x with broken:=true }:=by simp[mW,zo]
    have S:=S.sub [Wk.box b4 26 [.int .i64 R.2],Wk.box g 134 (dB b q e x),Wk.row 25 1 q x.said.length e (aa x.said),dr x.said,ay b m p2 c2 R.1] [];have hne:¬b4=g:=St.gj S (Wk.box b4 26 [.int .i64 R.2]) (Wk.box g 134 (dB b q e x)) b4 rfl;refine tV (Wk.box g 134 (dB b q e x)) (Wk.box g 134 (dB b q e (mW x R.2))) S rfl ((qX g b4 b q e x R.2 .returning w (S.box g) (az.aO (S.ir b4) hne)).mono fun _ _ _ h=>h) (fun _ h=>h) (fun w' hO=>?_);rw[pL]at hO;have S3:=(St.Mw hO).sub [Wk.box g 134 (dB b q e { x with broken:=true }),Wk.row 25 1 q x.said.length e (aa x.said),dr x.said,ay b m p2 c2 R.1] [];have hh:=St.iM S3 rfl rfl rfl rfl;have h1:=St.p_ S3 rfl rfl rfl rfl;refine .inr ⟨Jc,by rw[hR],p2,c2,q,e,y',by rw[hy'],wS.2,?_⟩;rw[←hR,hap];exact ⟨hh,h1⟩
theorem xM (t:Int):0≤mL t∧mL t≤4294967295:=by
 unfold mL IntKind.wrap;simp only[IntKind.bits,IntKind.signed,Bool.false_and];simp;omega
def gY (x:WS)(bs:List UInt8):Int:=if jD x bs=0 then (if x.n < bN bs.length∨mL x.au=0 then 6 else 0) else jD x bs
def zq (x:WS)(y:jK)(r:Int):WS:=if r=0 then { x with au:=mL x.au,said:=[y],fin:=bN y.bs.length } else { x with broken:=true }
theorem TQ (g b m:Nat)(p:Option Addr)(c:Nat)(s:DS)(q:Option Addr)(e:Nat)(x:WS)(y:jK)(w0:World)(hn:x.n≤1000)(_ht:0≤x.au∧x.au≤4294967295)(wR:y.bs.length≤10000000)(hl:s.loose.length≤980000)
  (hd:(both (ay b m p c s) (jg g b q e x)).holds w0) (f0:ag (both (ay b m p c s) (jg g b q e x)).aj w0 (av y.p y.bs)) :
  aT prog 19 [.pointer (some ⟨g,0,none⟩),.slice y.p y.bs.length y.c] w0 (both (ay b m p c s) (jg g b q e x)).aj fun v w'=>
   (gY x y.bs≠0∧v=.int .i64 (gY x y.bs)∧(both (ay b m p c s) (jg g b q e x)).holds w')∨
   (gY x y.bs=0∧v=.int .i64 (eT x.n (mL x.au) y.bs s).2∧∃ p' c' q' e',∃ y':jK,y'.bs=y.bs∧((eT x.n (mL x.au) y.bs s).2≠0→q'=q∧e'=e)∧((eT x.n (mL x.au) y.bs s).2=0→1≤e')∧
    (both (ay b m p' c' (eT x.n (mL x.au) y.bs s).1) (jg g b q' e' (zq x y' (eT x.n (mL x.au) y.bs s).2))).holds w'∧
    ∀ k,(both (ay b m p' c' (eT x.n (mL x.au) y.bs s).1) (jg g b q' e' (zq x y' (eT x.n (mL x.au) y.bs s).2))).aj k→(both (ay b m p c s) (jg g b q e x)).aj k∨w0.heap.size≤k):=by
 have hut:=xM x.au;refine CV func19 rfl rfl (Wd.ig (x:=ay b m p c s) (y:=jg g b q e x) (fs:=[av y.p y.bs]) hd rfl rfl (by intro Φ hΦ;obtain rfl:=List.mem_singleton.1 hΦ;exact f0)) (fun a S=>?_);refine E0 ntmps19 ?_;intro S;replace S:=S.front (jg g b q e x);replace S:=St.uV S;refine kS (kR ?_);refine sa S ?_;intro b4 a w S;refine J7 ?_;intro a S;refine sr S (xH g b q e x y _ (az.aO (S.ir g) (fun h=>h))) ?_;rintro _ a w rfl S;refine J9 ?_;intro a S;refine kC S (fun h2=>?_) (fun h2=>?_)
 ·refine Y8 ?_;intro a w S
  have he:jD x y.bs≠0:=by simpa using h2
  have hR:gY x y.bs=jD x y.bs:=by rw[gY,if_neg he]
  have hh:=St.iM (S.sub [Wk.box g 134 (dB b q e x),Wk.row 25 1 q x.said.length e (aa x.said),dr x.said,ay b m p c s] []) rfl rfl rfl rfl;refine EY S (.inl ?_);rw[hR];exact ⟨he,rfl,hh⟩
 ·refine kK (aQ (kS ?_))
  have he:jD x y.bs=0:=by simpa using h2
  obtain ⟨RP,hbk⟩:=oQ he;refine J3 ?_;intro a S;refine sr S (ke (y.bs.length:Int) _) ?_;rintro _ a w rfl S;rw[kQ _ RP]at S;refine mK ?_;intro a S;refine J4 ?_;intro a S;refine kC S (fun h5=>?_) (fun h5=>?_)
  ·refine Y7 ?_;intro a w S
   have hro:x.n < bN y.bs.length∨mL x.au=0:=by
    rw[show IntKind.u32.wrap (x.au+1)=mL x.au from rfl]at h5;simp at h5;omega
   have hR:gY x y.bs=6:=by rw[gY,if_pos he,if_pos hro]
   have hh:=St.iM (S.sub [Wk.box g 134 (dB b q e x),Wk.row 25 1 q x.said.length e (aa x.said),dr x.said,ay b m p c s] []) rfl rfl rfl rfl;refine EY S (.inl ?_);rw[hR];exact ⟨by decide,rfl,hh⟩
  ·refine kK (aQ (kS ?_))
   have hro:¬(x.n < bN y.bs.length∨mL x.au=0):=by
    rw[show IntKind.u32.wrap (x.au+1)=mL x.au from rfl]at h5;simp at h5;omega
   refine kR (sq S ?_);intro a S;refine Og S ?_;intro a S;refine kN (aQ (kS (kR (sq S ?_))));intro a S;replace S:=S.cP 5 1;refine gA S (by simp only[maxLen];omega) (by omega) ?_;rintro p8 c8 a w - S;rw[show ([]:List Value)++aa y.bs=aa y.bs from rfl,Nat.zero_add]at S;have YU:=gm (S.row p8 y.bs.length);replace S:=St.Ja S ⟨p8,c8,y.bs⟩ (S.row p8 y.bs.length);obtain ⟨y',hy'⟩:∃ y':jK,y'=⟨p8,c8,y.bs⟩:=⟨_,rfl⟩;rw[←hy']at S;obtain ⟨R,hR⟩:∃ R,R=eT x.n (mL x.au) y.bs s:=⟨_,rfl⟩;have Jc:gY x y.bs=0:=by rw[gY,if_pos he,if_neg hro]
   refine J9 ?_;intro a S;refine sr S (PO b x.n x.au _) ?_;rintro _ a w rfl S;refine sa S ?_;intro b8 a w S;refine Y8 ?_;intro a w S;have wK:ag (ay b m p c s).aj w (av y'.p y'.bs):=St.Oi S (fun k hk hk2=>St.gj S (dr [y']) (ay b m p c s) k hk hk2) (by simp);rw[hy']at wK;refine cM (ay b m p c s) S (ET b m x.n p c s (mL x.au) y.bs p8 c8 _ hn hut RP YU (by omega) (S.it (ay b m p c s)) wK) rfl ?_;clear S wK;rintro _ a w ⟨rfl,p2,c2,hh,hn2⟩ hS;have S:=hS (ay b m p2 c2 (eT x.n (mL x.au) y.bs s).1) hh hn2;clear hS;rw[←hR]at S;refine Y9 ?_;intro a w S;refine kC S (fun wF=>?_) (fun wF=>?_)
   ·refine J6 ?_;intro a S;refine sn S ?_;intro EZ a w S;refine Rs ?_;intro a w S
    have zo:R.2=0:=of_decide_eq_true wF;obtain ⟨x',hx'⟩:∃ x':WS,x' = { x with au:=mL x.au,said:=[y'],fin:=bN y.bs.length }:=⟨_,rfl⟩;have TP:y'.bs=y.bs:=by rw[hy']
    have hap:zq x y' R.2=x':=by rw[zq,if_pos zo,hx',TP]
    have pL:mW x' R.2=x':=by rw[mW,zo];simp
    replace S:=S.bT EZ 1 1 rfl (by decide);replace S:=S.sub [Wk.row 25 1 (some ⟨EZ,0,none⟩) 1 1 [.slice p8 y.bs.length c8],dr [y'],Wk.box b4 26 [.int .i64 R.2],Wk.box g 134 [.pointer (some ⟨b,0,none⟩),.int .i64 (x.n:Int),.int .u32 (mL x.au),.slice (some ⟨EZ,0,none⟩) 1 1,.int .i64 (bN y.bs.length:Int),.bool x.broken],ay b m p2 c2 R.1] [];replace S:=St.items S (bs':=[Wk.row 25 1 (some ⟨EZ,0,none⟩) x'.said.length 1 (aa x'.said),dr x'.said,Wk.box b4 26 [.int .i64 R.2],Wk.box g 134 (dB b (some ⟨EZ,0,none⟩) 1 x'),ay b m p2 c2 R.1]) (by rw[hx',hy'];rfl);have hne:¬b4=g:=St.gj S (Wk.box b4 26 [.int .i64 R.2]) (Wk.box g 134 (dB b (some ⟨EZ,0,none⟩) 1 x')) b4 rfl;refine tV (Wk.box g 134 (dB b (some ⟨EZ,0,none⟩) 1 x')) (Wk.box g 134 (dB b (some ⟨EZ,0,none⟩) 1 (mW x' R.2))) S rfl ((qX g b4 b (some ⟨EZ,0,none⟩) 1 x' R.2 .returning w (S.box g) (az.aO (S.ir b4) hne)).mono fun _ _ _ h=>h) (fun _ h=>h) (fun w' hO=>?_);rw[pL]at hO;have S2:=(St.Mw hO).sub [Wk.row 25 1 (some ⟨EZ,0,none⟩) x'.said.length 1 (aa x'.said),dr x'.said,Wk.box g 134 (dB b (some ⟨EZ,0,none⟩) 1 x'),ay b m p2 c2 R.1] [];have S3:=S2.perm [Wk.box g 134 (dB b (some ⟨EZ,0,none⟩) 1 x'),Wk.row 25 1 (some ⟨EZ,0,none⟩) x'.said.length 1 (aa x'.said),dr x'.said,ay b m p2 c2 R.1] ((List.Perm.swap _ _ _).trans (List.Perm.cons _ (List.Perm.swap _ _ _)));have hh:=St.iM S3 rfl rfl rfl rfl;have h1:=St.p_ S3 rfl rfl rfl rfl;refine .inr ⟨Jc,by rw[hR],p2,c2,some ⟨EZ,0,none⟩,1,y',TP,fun h=>absurd (hR▸zo) h,fun _=>Nat.le_refl _,?_⟩
    rw[←hR,hap];exact ⟨hh,h1⟩
   ·refine Y9 ?_;intro a w S
    have zo:R.2≠0:=of_decide_eq_false wF;have hap:zq x y' R.2 = { x with broken:=true }:=by rw[zq,if_neg zo]
    have pL:mW x R.2 = { x with broken:=true }:=by simp[mW,zo]
    have S:=S.sub [Wk.box b4 26 [.int .i64 R.2],Wk.box g 134 (dB b q e x),Wk.row 25 1 q x.said.length e (aa x.said),dr x.said,ay b m p2 c2 R.1] [];have hne:¬b4=g:=St.gj S (Wk.box b4 26 [.int .i64 R.2]) (Wk.box g 134 (dB b q e x)) b4 rfl;refine tV (Wk.box g 134 (dB b q e x)) (Wk.box g 134 (dB b q e (mW x R.2))) S rfl ((qX g b4 b q e x R.2 .returning w (S.box g) (az.aO (S.ir b4) hne)).mono fun _ _ _ h=>h) (fun _ h=>h) (fun w' hO=>?_);rw[pL]at hO;have S3:=(St.Mw hO).sub [Wk.box g 134 (dB b q e { x with broken:=true }),Wk.row 25 1 q x.said.length e (aa x.said),dr x.said,ay b m p2 c2 R.1] [];have hh:=St.iM S3 rfl rfl rfl rfl;have h1:=St.p_ S3 rfl rfl rfl rfl;refine .inr ⟨Jc,by rw[hR],p2,c2,q,e,y',by rw[hy'],fun _=>⟨rfl,rfl⟩,fun h=>absurd h (by rw[←hR];exact zo),?_⟩;rw[←hR,hap];exact ⟨hh,h1⟩
theorem mz (k u:Int)(v:bF):∀ f,eo k (qO u v f)=if k=u then some v else eo k f
 | []=>by simp[qO,eo]
 | (w,x)::f=>by
  rw[qO];split
  rename_i h
  subst h;rw[eo,eo];split <;> rfl
  rename_i h
  rw[eo,eo,mz k u v f]
  by_cases hw:k=w
  subst hw;rw[if_pos rfl,if_pos rfl,if_neg (fun e=>h e.symm)];rw[if_neg hw,if_neg hw]
theorem vu (k:Int)(x:rN):∀ l,ez k (l++[x])=(if x.at_=k then some x.b else none).or (ez k l)
 | []=>by simp[ez]
 | y::l=>by rw[Cl,ez,vu k x l,ez,Option.or_assoc]
theorem vw (j:Int)(l:List rN)(f:List (Int × bF)):∀ k,k≤l.length→eo j (cL (fun _=>true) l f k)=(ez j (l.take k)).or (eo j f)
 | 0,_=>by rw[cL,List.take_zero,ez,Option.none_or]
 | k+1,h=>by
  rw[cL,if_pos rfl,mz,uY (by omega),vu,vw j l f k (by omega)]
  by_cases e:j=(aq l k).at_
  rw[if_pos e,if_pos e.symm];rfl;rw[if_neg e,if_neg (fun h=>e h.symm)];rfl
theorem qg (j:Int)(st:Nat→Bool)(l:List rN)(f:List (Int × bF)):∀ k,k≤l.length→eo j (cL st l f k)=eo j f∨∃ x∈l,x.at_=j∧eo j (cL st l f k)=some x.b
 | 0,_=>.inl rfl
 | k+1,h=>by
  rw[cL];split;rw[mz]
  by_cases e:j=(aq l k).at_
  rw[if_pos e];exact .inr ⟨aq l k,bh (by omega),e.symm,rfl⟩;rw[if_neg e];exact qg j st l f k (by omega);exact qg j st l f k (by omega)
theorem fj {s:DS}(h:s.loose=[])(k:Int):aN s k=(eo k s.cg).getD zB:=by rw[aN,h,ez,Option.none_or]
structure Up (s:DS):Prop where
 on:s.out=false
 fit:s.bD.on=false
def hit (s:DS):Bool:=(ek s.bC).1
theorem m4 {c:Im}(h:c.on=false):ek c=(false,c):=by rw[ek,if_neg (by rw[h];exact Bool.false_ne_true)]
theorem tW {s:DS}(h:s.bC.on=false):hit s=false:=by rw[hit,m4 h]
theorem Dj {s:DS}(h:Up s){k:Int}(hk:0≤k∧k < s.size)(b:Bool):cS s k b=if b&&hit s then 9 else 0:=by
 rw[cS,if_neg (by rw[h.on];exact Bool.false_ne_true),if_neg (by omega),m4 h.fit,if_neg (by exact Bool.false_ne_true)];rfl
theorem E2 {s:DS}(h:Up s){k:Int}(hk:0≤k∧k < s.size):cS s k false=0∧EI s k=aN s k∧lA s k=oK s:=by
 have h1:cS s k false=0:=by rw[Dj h hk];rfl
 refine ⟨h1,by rw[EI,if_pos h1],?_⟩;rw[lA,if_pos h1,fe,if_neg (by rw[h.on];exact Bool.false_ne_true),if_neg (by omega),m4 h.fit,if_neg (by exact Bool.false_ne_true),if_neg (by exact Bool.false_ne_true)]
theorem Mx {s:DS}(h:Up s){k:Int}(hk:0≤k∧k < s.size):fe s k true=if hit s then { s with bC:=(ek s.bC).2,out:=true } else { s with bC:=(ek s.bC).2 }:=by
 rw[fe,if_neg (by rw[h.on];exact Bool.false_ne_true),if_neg (by omega),m4 h.fit,if_neg (by exact Bool.false_ne_true),if_pos rfl];rfl
theorem vz {s:DS}(h:Up s){k:Int}(hk:0≤k∧k < s.size)(g:DS→DS):(hit s=false∧cS s k true=0∧g_ g s k=oK (g { s with bC:=(ek s.bC).2 }))∨(hit s=true∧cS s k true=9∧g_ g s k = { s with bC:=(ek s.bC).2,out:=true }):=by
 have h1:=Dj h hk true;have h2:=Mx h hk;cases hh:hit s with
 | false=>
  rw[hh]at h1 h2;replace h1:cS s k true=0:=h1;refine .inl ⟨rfl,h1,?_⟩;rw[g_,if_pos h1,h2];rfl
 | true=>
  rw[hh]at h1 h2;replace h1:cS s k true=9:=h1;refine .inr ⟨rfl,h1,?_⟩;rw[g_,if_neg (by rw[h1];decide),h2];rfl
theorem r8 {c:Im}(h:c.on=false):(ek c).2.on=false:=by rw[m4 h];exact h
structure Alike (s s':DS):Prop where
 size:s'.size=s.size
 bD:s'.bD=s.bD
 cg:s'.cg=s.cg
def wX:Nat→List bF→List rN
 | _,[]=>[]
 | k,x::xs=>⟨(k:Int),x⟩::wX (k+1) xs
theorem E3:∀ {xs:List bF} {k:Nat} {y:rN},y∈wX k xs→∃ i,y.at_=((k+i:Nat):Int)∧xs[i]? = some y.b
 | [],_,_,h=>by cases h
 | x::xs,k,y,h=>by
  rw[wX]at h;rcases List.mem_cons.1 h with rfl | h
  exact ⟨0,rfl,rfl⟩;obtain ⟨i,h1,h2⟩:=E3 h;exact ⟨i+1,by rw[h1];congr 1;omega,by simpa using h2⟩
theorem qY:∀ (xs:List bF) (k:Nat) (j:Int),ez j (wX k xs)=if (k:Int)≤j∧j < ((k+xs.length:Nat):Int) then xs[(j - k).toNat]? else none
 | [],k,j=>by rw[wX,ez,if_neg (by simp only[FG];omega)]
 | x::xs,k,j=>by
  rw[wX,ez,qY xs (k+1) j]
  by_cases h1:j=(k:Int)
  subst h1;rw[if_neg (by omega),if_pos rfl,if_pos (by simp only[jb];omega),Int.sub_self];rfl;rw[if_neg (show ¬((⟨(k:Int),x⟩:rN).at_=j) from fun e=>h1 e.symm),Option.or_none]
  by_cases h2:(k:Int)≤j∧j < ((k+(x::xs).length:Nat):Int)
  rw[if_pos h2,if_pos (by simp only[jb]at h2;omega)];have:(j - (k:Int)).toNat=(j - ((k+1:Nat):Int)).toNat+1:=by omega
  rw[this,List.getElem?_cons_succ];rw[if_neg h2,if_neg (by simp only[jb]at h2;omega)]
theorem Oj:∀ (xs:List bF) (s:DS) (k:Nat),Up s→((k+xs.length:Nat):Int)≤s.size→
  Alike s (gB s k xs).1∧(((gB s k xs).2=0∧(gB s k xs).1.out=false∧(gB s k xs).1.loose=s.loose++wX k xs∧(s.bC.on=false→(gB s k xs).1.bC.on=false))∨
   (s.bC.on=true∧(gB s k xs).2=9∧(gB s k xs).1.out=true∧∃ i,(gB s k xs).1.loose=s.loose++wX k (xs.take i)))
 | [],s,k,hu,_=>by
  rw[gB];exact ⟨⟨rfl,rfl,rfl⟩,.inl ⟨rfl,hu.on,by rw[wX,List.append_nil],id⟩⟩
 | x::xs,s,k,hu,hk=>by
  simp only[jb]at hk;rcases vz hu (k:=(k:Int)) (by omega) (fun s=>dU s k x) with ⟨h1,h2,h3⟩ | ⟨h1,h2,h3⟩
  rw[gB,if_pos h2,show ((k:Int)+1)=((k+1:Nat):Int) from rfl];have e:l_ s k x=oK (dU { s with bC:=(ek s.bC).2 } k x):=h3;have My:Up (l_ s k x):=by rw[e];exact ⟨hu.on,hu.fit⟩
  have dZ:(l_ s k x).size=s.size:=by rw[e];rfl
  obtain ⟨ha,hc⟩:=Oj xs (l_ s k x) (k+1) My (by rw[dZ];omega);refine ⟨⟨ha.size.trans dZ,ha.bD.trans (by rw[e];rfl),ha.cg.trans (by rw[e];rfl)⟩,?_⟩;have hl:(l_ s k x).loose=s.loose++[⟨(k:Int),x⟩]:=by rw[e];rfl
  have Jd:s.bC.on=false→(l_ s k x).bC.on=false:=fun h=>by rw[e];exact r8 h
  rcases hc with ⟨c1,c2,c3,c4⟩ | ⟨c0,c1,c2,i,c3⟩
  exact .inl ⟨c1,c2,by rw[c3,hl,wX,List.append_assoc];rfl,fun h=>c4 (Jd h)⟩;refine .inr ⟨?_,c1,c2,i+1,by rw[c3,hl,List.take_succ_cons,wX,List.append_assoc];rfl⟩;cases hx:s.bC.on with
  | true=>rfl
  | false=>rw[Jd hx]at c0;cases c0
  rw[gB,if_neg (by rw[h2];decide)];have e:l_ s k x = { s with bC:=(ek s.bC).2,out:=true }:=h3;refine ⟨by rw[e];exact ⟨rfl,rfl,rfl⟩,.inr ⟨?_,h2,by rw[e],0,by rw[e,List.take_zero,wX,List.append_nil]⟩⟩;cases hx:s.bC.on with
  | true=>rfl
  | false=>rw[tW hx]at h1;cases h1
theorem Ol {s:DS}(hu:Up s)(h0:0 < s.size):((cS s 0 true=0∧(oL s).out=false∧(oL s).loose=[]∧(∀ j,aN (oL s) j=aN s j)∧(oL s).size=s.size∧(oL s).bD=s.bD∧(s.bC.on=false→(oL s).bC.on=false))∨
  (s.bC.on=true∧cS s 0 true=9∧(oL s).out=true∧(oL s).loose=s.loose∧Alike s (oL s))):=by
 rcases vz hu (k:=0) (by omega) (gy fun _=>true) with ⟨h1,h2,h3⟩ | ⟨h1,h2,h3⟩
 have e:oL s=oK (gy (fun _=>true) { s with bC:=(ek s.bC).2 }):=h3;refine .inl ⟨h2,by rw[e];exact hu.on,by rw[e];rfl,fun j=>?_,by rw[e];rfl,by rw[e];rfl,fun h=>by rw[e];exact r8 h⟩;rw[fj (by rw[e];rfl),aN,e]
 show (eo j (cL (fun _=>true) s.loose s.cg s.loose.length)).getD zB=_
 rw[vw j s.loose s.cg s.loose.length (Nat.le_refl _),List.take_length];have e:oL s = { s with bC:=(ek s.bC).2,out:=true }:=h3;refine .inr ⟨?_,h2,by rw[e],by rw[e],by rw[e];exact ⟨rfl,rfl,rfl⟩⟩;cases hx:s.bC.on with
 | true=>rfl
 | false=>rw[tW hx]at h1;cases h1
theorem xN (xs:List bF)(s:DS)(k:Nat)(hu:Up s)(hl:s.loose=[])(h0:0 < s.size)(hk:((k+xs.length:Nat):Int)≤s.size) :
  ((bg s k xs).2=0∧Up (bg s k xs).1∧(bg s k xs).1.loose=[]∧(bg s k xs).1.size=s.size∧(s.bC.on=false→(bg s k xs).1.bC.on=false)∧∀ j,aN (bg s k xs).1 j=(ez j (wX k xs)).getD (aN s j))∨
  (s.bC.on=true∧(bg s k xs).2=9∧(bg s k xs).1.out=true∧Alike s (bg s k xs).1∧∃ i,(bg s k xs).1.loose=wX k (xs.take i)):=by
 obtain ⟨ha,hc⟩:=Oj xs s k hu hk;rw[hl]at hc;simp only[j6]at hc;rcases hc with ⟨c1,c2,c3,c4⟩ | ⟨c0,c1,c2,i,c3⟩
 have e:bg s k xs=(oL (gB s k xs).1,cS (gB s k xs).1 0 true):=by rw[bg,if_pos c1]
 have My:Up (gB s k xs).1:=⟨c2,by rw[ha.bD];exact hu.fit⟩;rw[e];rcases Ol My (by rw[ha.size];exact h0) with ⟨d1,d2,d3,d4,d5,d6,d7⟩ | ⟨d0,d1,d2,d3,d4⟩
 refine .inl ⟨d1,⟨d2,by rw[d6];exact My.fit⟩,d3,d5.trans ha.size,fun h=>d7 (c4 h),fun j=>?_⟩
 show aN (oL (gB s k xs).1) j=_
 rw[d4,aN,c3,ha.cg,fj hl];cases ez j (wX k xs) <;> rfl
 refine .inr ⟨?_,d1,d2,⟨d4.size.trans ha.size,d4.bD.trans ha.bD,d4.cg.trans ha.cg⟩,xs.length,by rw[List.take_length];exact d3.trans c3⟩;cases hx:s.bC.on with
 | true=>rfl
 | false=>rw[c4 hx]at d0;cases d0
 have e:bg s k xs=gB s k xs:=by rw[bg,if_neg (by rw[c1];decide)]
 rw[e];exact .inr ⟨c0,c1,c2,ha,i,c3⟩
theorem kf (l:List Bool)(s:DS):Up (bp l s)∧(bp l s).loose=[]∧(bp l s).size=s.size∧(bp l s).bC.on=false∧∀ j,aN (bp l s) j=(eo j s.cg).getD zB∨∃ x∈s.loose,x.at_=j∧aN (bp l s) j=x.b:=by
 refine ⟨⟨rfl,rfl⟩,rfl,rfl,rfl,fun j=>?_⟩;rw[fj (s:=bp l s) rfl]
 show (eo j (cL (qP l) s.loose s.cg s.loose.length)).getD zB=_∨_
 rcases qg j (qP l) s.loose s.cg s.loose.length (Nat.le_refl _) with h | ⟨x,h1,h2,h3⟩
 rw[h];exact .inl rfl;exact .inr ⟨x,h1,h2,by show (eo j (cL (qP l) s.loose s.cg s.loose.length)).getD zB=_;rw[h3];rfl⟩
theorem r9 (l:List Bool){s:DS}{xs:List bF}{k:Nat}(hl:s.loose=[]){r:DS}(ha:Alike s r){i:Nat}(hr:r.loose=wX k (xs.take i))(j:Int) :
  aN (bp l r) j=aN s j∨∃ m,j=((k+m:Nat):Int)∧xs[m]? = some (aN (bp l r) j):=by
 obtain ⟨_,_,_,_,h1⟩:=kf l r;rcases h1 j with e | ⟨x,hx,h2,h3⟩
 rw[e,ha.cg,fj hl];exact .inl rfl;rw[hr]at hx;obtain ⟨m,e1,e2⟩:=E3 hx;rw[List.getElem?_take]at e2;split at e2;exact .inr ⟨m,h2.symm.trans e1,by rw[h3];exact e2⟩;cases e2
def dh (s:DS)(fr n:Nat):List bF:=(List.range n).map fun i=>aN s ((fr+i:Nat):Int)
theorem fM (s:DS)(fr n:Nat):(dh s fr n).length=n:=by simp[dh]
theorem dF (s:DS)(fr n i:Nat)(h:i < n):(dh s fr n)[i]? = some (aN s ((fr+i:Nat):Int)):=by
 rw[dh,List.getElem?_map,List.getElem?_range h];rfl
theorem m5 {s s':DS}{fr n:Nat}(h:∀ i,i < n→aN s' ((fr+i:Nat):Int)=aN s ((fr+i:Nat):Int)):dh s' fr n=dh s fr n:=
 List.map_congr_left fun i hi=>h i (List.mem_range.1 hi)
def Below (s:DS)(t:Int)(i:Nat)(y:bF):Prop:=(jY s (i_ y)&&decide (ic y % 2=(i:Int))&&decide (y.l=(bW (ic y) (i_ y)).l))=true→ic y < t
structure fN (s:DS)(n:Nat)(t:Int)(said:List (List UInt8))(tail:List bF):Prop where
 up:Up s
 loose:s.loose=[]
 hn:4≤n∧n≤1000
 size:((2*n+2:Nat):Int)≤s.size
 ht:0≤t∧t≤4294967295
 title:aN s ((t % 2).toNat:Int)=bW t n
 other:Below s t (1 - (t % 2).toNat) (aN s ((1 - (t % 2).toNat:Nat):Int))
 some_:said≠[]
 short:∀ b∈said,b.length≤40000
 cur:dh s (aB n t) n=dg t said 0++tail
 Om:∀ i,i < n→jE (t+1) (aN s ((aB n (t+1)+i:Nat):Int))
def Live (s:DS)(n:Nat)(t:Int)(said:List (List UInt8)):Prop:=∃ tail,fN s n t said tail∧∀ x∈tail,jE t x
def vA (s:DS)(n:Nat)(t:Int)(said:List (List UInt8)):Prop:=∃ tail,fN s n t said tail∧lB t (said.length:Nat) tail∧∀ x∈tail,jE (t+1) x
def Clean (s:DS)(n:Nat)(t:Int)(said:List (List UInt8)):Prop:=∃ k,fN s n t said (List.replicate k zB)
def bY (t:Int)(said:List (List UInt8)):Nat:=(dg t said 0).length
theorem fN.len {s:DS}{n:Nat}{t:Int}{said:List (List UInt8)}{tail:List bF}(h:fN s n t said tail):bY t said+tail.length=n:=by
 have:=congrArg List.length h.cur;rw[fM,List.length_append]at this;exact this.symm
theorem n_ (t:Int):∀ (said:List (List UInt8)) (j:Nat),said.length≤(dg t said j).length
 | [],_=>Nat.le_refl _
 | b::l,j=>by
  have:=n_ t l (j+1);have:=fW b.length;rw[dg,List.length_append,bB,jb];omega
theorem fN.rO {s:DS}{n:Nat}{t:Int}{said:List (List UInt8)}{tail:List bF}(h:fN s n t said tail):said.length≤n∧0 < said.length:=
 ⟨by have:=n_ t said 0;have:=h.len;unfold bY at this;omega,List.length_pos_iff.2 h.some_⟩
theorem Live.Gh {s:DS}{n:Nat}{t:Int}{said:List (List UInt8)}(h:Live s n t said):vA s n t said:=by
 obtain ⟨tail,h,hf⟩:=h;have h1:=h.rO;have h2:=h.hn;exact ⟨tail,h,wV h.ht.2 (by omega) hf,fun x hx=>(hf x hx).mono (by omega)⟩
theorem fq {n:Nat}(t:Int)(hn:n≤1000):2≤aB n t∧aB n t≤2+n:=by
 unfold aB;rcases (show (t % 2).toNat=0∨(t % 2).toNat=1 by omega) with h | h <;> rw[h] <;> omega
theorem qh {n:Nat}(t:Int){i j:Nat}(hi:i < n)(hj:j < n):aB n t+i≠aB n (t+1)+j:=by
 unfold aB;rcases (show t % 2=0∨t % 2=1 by omega) with h | h
 rw[show (t+1) % 2=1 from by omega,h];simp;omega;rw[show (t+1) % 2=0 from by omega,h];simp;omega
theorem Je {n:Nat}(t:Int):aB n (t+1+1)=aB n t:=by
 unfold aB;rw[show (t+1+1) % 2=t % 2 from by omega]
theorem fN.same {s s':DS}{n:Nat}{t:Int}{said:List (List UInt8)}{tail:List bF}(h:fN s n t said tail)(hu:Up s')(hl:s'.loose=[])(hz:s'.size=s.size)(hh:∀ j,aN s' j=aN s j):fN s' n t said tail where
 up:=hu
 loose:=hl
 hn:=h.hn
 size:=by rw[hz];exact h.size
 ht:=h.ht
 title:=by rw[hh];exact h.title
 other:=by
  have:=h.other;unfold Below jY at this⊢;rw[hz,hh];exact this
 some_:=h.some_
 short:=h.short
 cur:=by rw[m5 fun i _=>hh _];exact h.cur
 Om:=fun i hi=>by rw[hh];exact h.Om i hi
theorem zu {xs:List bF}{k i:Nat}(hi:i < xs.length)(u:bF):(ez ((k+i:Nat):Int) (wX k xs)).getD u=(xs[i]?).getD u:=by
 rw[qY,if_pos (by omega)]
 congr 2;omega
theorem qZ {xs:List bF}{k:Nat}{j:Int}(h:j < (k:Int)∨((k+xs.length:Nat):Int)≤j)(u:bF):(ez j (wX k xs)).getD u=u:=by
 rw[qY,if_neg (by omega)];rfl
theorem qi {s s':DS}{fr n k:Nat}{xs:List bF}(hk:k+xs.length≤n)(h:∀ j,aN s' j=(ez j (wX (fr+k) xs)).getD (aN s j)):dh s' fr n=(dh s fr n).take k++xs++(dh s fr n).drop (k+xs.length):=by
 have hl:((dh s fr n).take k).length=k:=by rw[List.length_take,fM];omega
 apply List.ext_getElem?;intro i
 by_cases hi:i < n
 rw[dF s' fr n i hi,h]
 by_cases h1:i < k
 rw[qZ (.inl (by omega)),List.append_assoc,List.getElem?_append_left (by omega),List.getElem?_take,if_pos h1,dF s fr n i hi]
 by_cases h2:i < k+xs.length
 rw[show (fr+i:Nat)=fr+k+(i - k) from by omega,zu (by omega),List.append_assoc,List.getElem?_append_right (by omega),hl,List.getElem?_append_left (by omega),List.getElem?_eq_getElem (by omega)];rfl;rw[qZ (.inr (by omega)),List.getElem?_append_right (by rw[List.length_append,hl];omega),List.length_append,hl,List.getElem?_drop,show k+xs.length+(i - (k+xs.length))=i from by omega,dF s fr n i hi];rw[List.getElem?_eq_none (by rw[fM];omega),List.getElem?_eq_none (by rw[List.length_append,List.length_append,hl,List.length_drop,fM];omega)]
def Mix (tail xs tail':List bF):Prop:=tail'.length=tail.length∧∀ (i:Nat) (x:bF),tail'[i]? = some x→tail[i]? = some x∨xs[i]? = some x
theorem Gi {t j:Int}{bs:List UInt8}{tail tail':List bF}(ht:t≤4294967295)(hj:1≤j∧j≤4294967295)(hb:bs.length≤40000)(hf:∀ x∈tail,jE t x)(hm:Mix tail (aG t j bs) tail')(_hn:(aG t j bs).length≤tail.length) :
  (∃ rest,tail'=aG t j bs++rest∧∀ x∈rest,jE t x)∨lB t j tail':=by
 by_cases hp:aG t j bs <+: tail'
 obtain ⟨rest,hr⟩:=hp;refine .inl ⟨rest,hr.symm,fun x hx=>?_⟩;obtain ⟨i,hi⟩:=List.getElem?_of_mem hx;have h1:tail'[(aG t j bs).length+i]? = some x:=by rw[←hr,List.getElem?_append_right (by omega),show (aG t j bs).length+i - (aG t j bs).length=i from by omega];exact hi
 rcases hm.2 _ _ h1 with h2 | h2
 exact hf x (List.mem_of_getElem? h2);rw[List.getElem?_eq_none (by omega)]at h2;cases h2;refine .inr fun bs' hb' ⟨rest,hr⟩=>hp ?_
 have key:∀ i,i < bN bs'.length→(aG t j bs)[i]? = some (ia t j bs' i):=fun i hi=>by
  have h1:tail'[i]? = some (ia t j bs' i):=by rw[←hr,List.getElem?_append_left (by rw[bB];exact hi)];exact fR t j bs' i hi
  rcases hm.2 _ _ h1 with h2 | h2
  exact absurd rfl (hf _ (List.mem_of_getElem? h2) t j bs' i (Int.le_refl _) ht hj.1 hj.2);exact h2
 have h0:=key 0 (fW _);rw[fR t j bs 0 (fW _)]at h0;have hlen:(bs.length:Int)=(bs'.length:Int):=I0 (by omega) (by omega) (qf (Option.some.inj h0)).2.2.1;have Gd:bs.length=bs'.length:=by omega
 have he:aG t j bs=aG t j bs':=by
  apply List.ext_getElem?;intro i
  by_cases hi:i < bN bs'.length
  rw[key i hi,fR t j bs' i hi];rw[List.getElem?_eq_none (by rw[bB,Gd];omega),List.getElem?_eq_none (by rw[bB];omega)]
 rw[he];exact ⟨rest,hr⟩
theorem Dk {t j:Int}{tail tail':List bF}(ht:t≤4294967295)(hj:1≤j∧j≤4294967295)(hn:lB t j tail)(hm:∀ (i:Nat) (x:bF),tail'[i]? = some x→tail[i]? = some x∨x=zB):lB t j tail':=by
 refine fun bs hb ⟨rest,hr⟩=>hn bs hb ?_
 have key:∀ i,i < bN bs.length→tail[i]? = some (ia t j bs i):=fun i hi=>by
  have h1:tail'[i]? = some (ia t j bs i):=by rw[←hr,List.getElem?_append_left (by rw[bB];exact hi)];exact fR t j bs i hi
  rcases hm _ _ h1 with h2 | h2
  exact h2;exact absurd h2.symm (mX t t j bs i (Int.le_refl _) ht hj.1 hj.2)
 refine ⟨tail.drop (bN bs.length),?_⟩;have e:aG t j bs=tail.take (bN bs.length):=by
  apply List.ext_getElem?;intro i;rw[List.getElem?_take]
  by_cases hi:i < bN bs.length
  rw[if_pos hi,key i hi,fR t j bs i hi];rw[if_neg hi,List.getElem?_eq_none (by rw[bB];omega)]
 rw[e,List.take_append_drop]
theorem oa (t:Int)(n:Nat)(ht:0≤t∧t≤4294967295)(hn:n≤1000):i_ (bW t n)=n∧ic (bW t n)=t:=by
 have h1:(bW t n).l.drop 4=be 4 n++(be 4 t++(IT++List.replicate 43 0)):=by
  rw[bW,xI (vk _ _),vj];simp only[List.append_assoc]
 refine ⟨by rw[i_,h1,qT _ (by omega)],?_⟩;rw[ic,h1,List.drop_left' (bI _ _),qT _ ht]
theorem vB {s:DS}{t:Int}{n:Nat}(ht:0≤t∧t≤4294967295)(hn:4≤n∧n≤1000)(hs:((2*n+2:Nat):Int)≤s.size){B:Bb}(hB:B.has=true→B.t < t):sX s (t % 2).toNat (bW t n) B=true:=by
 obtain ⟨h1,h2⟩:=oa t n ht hn.2;rw[sX,h1,h2,jY];have h3:(B.has=true→B.t < t):=hB;cases hb:B.has with
 | false=>simp;omega
 | true=>have:=h3 hb;simp[this];omega
theorem Mz (s:DS)(hu:Up s)(h2:1 < s.size):cw s=(if (ew s 1 (aN s 1) (ew s 0 (aN s 0) ⟨false,0,0⟩)).has then (oK (oK s),0,ew s 1 (aN s 1) (ew s 0 (aN s 0) ⟨false,0,0⟩)) else (oK (oK s),140,⟨false,0,0⟩)):=by
 have My:Up (oK s):=⟨hu.on,hu.fit⟩;obtain ⟨a1,a2,a3⟩:=E2 hu (k:=((0:Nat):Int)) (by omega);obtain ⟨b1,b2,b3⟩:=E2 My (k:=((1:Nat):Int)) (by show (0:Int)≤1∧(1:Int) < s.size;omega);rw[cw,jZ,if_pos a1,a2,a3,jZ,if_pos b1,b2,b3,jZ];rfl
theorem Jf {s:DS}{n:Nat}{t:Int}{said:List (List UInt8)}{tail:List bF}(h:fN s n t said tail):cw s=(oK (oK s),0,⟨true,n,t⟩):=by
 have hn:=h.hn;have hs:=h.size;obtain ⟨h1,h2⟩:=oa t n h.ht hn.2;rw[Mz s h.up (by omega)];have o_:=h.title;have V3:=h.other;rcases (show (t % 2).toNat=0∨(t % 2).toNat=1 by omega) with h0 | h0
 rw[h0]at o_ V3;have e0:ew s 0 (aN s 0) ⟨false,0,0⟩=⟨true,n,t⟩:=by
  have:=vB (s:=s) h.ht hn hs (B:=⟨false,0,0⟩) (fun h=>by cases h);rw[h0]at this;rw[ew,show aN s 0=bW t n from o_,if_pos this,h1,h2]
 have e1:ew s 1 (aN s 1) ⟨true,n,t⟩=⟨true,n,t⟩:=by
  rw[ew,if_neg];intro hc;rw[sX,Bool.and_eq_true]at hc;have h3:=V3 hc.1;have h4:t < ic (aN s 1):=by simpa using hc.2
  have h5:ic (aN s ((1 - 0:Nat):Int))=ic (aN s 1):=rfl;omega
 rw[e0,e1];rfl;rw[h0]at o_ V3;obtain ⟨B,hB⟩:∃ B,B=ew s 0 (aN s 0) ⟨false,0,0⟩:=⟨_,rfl⟩;rw[←hB];have hBt:B.has=true→B.t < t:=by
  rw[hB,ew];split
  rename_i hc
  intro _;rw[sX,Bool.and_eq_true]at hc;exact V3 hc.1;intro h;cases h
 have e1:ew s 1 (aN s 1) B=⟨true,n,t⟩:=by
  have:=vB (s:=s) h.ht hn hs (B:=B) hBt;rw[h0]at this;rw[ew,show aN s 1=bW t n from o_,if_pos this,h1,h2]
 rw[e1];rfl
theorem Be (fr:Nat):∀ (k i:Nat) (s:DS),Up s→((fr+i+k:Nat):Int)≤s.size→(cq fr k i s).2.1=0∧(cq fr k i s).2.2=(List.range k).map (fun a=>aN s ((fr+(i+a):Nat):Int))∧Up (cq fr k i s).1∧(cq fr k i s).1.loose=s.loose∧(cq fr k i s).1.size=s.size∧(cq fr k i s).1.bC=s.bC∧∀ j,aN (cq fr k i s).1 j=aN s j
 | 0,i,s,hu,_=>⟨rfl,rfl,hu,rfl,rfl,rfl,fun _=>rfl⟩
 | k+1,i,s,hu,hs=>by
  obtain ⟨a1,a2,a3⟩:=E2 hu (k:=((fr+i:Nat):Int)) (by omega);obtain ⟨b1,b2,b3,b4,b5,b6,b7⟩:=Be fr k (i+1) (oK s) ⟨hu.on,hu.fit⟩ (by show ((fr+(i+1)+k:Nat):Int)≤s.size;omega);rw[cq,if_pos a1,a2,a3];refine ⟨b1,?_,b3,b4,b5,b6,b7⟩
  show aN s _::_=_
  rw[b2,List.range_succ_eq_map,List.map_cons,List.map_map]
  congr 1
  apply List.map_congr_left;intro a _
  show aN s _=aN s _
  congr 2;omega
theorem oR {xs:List bF}{k:Nat}{j:Int}(h:∀ i,i < xs.length→j≠((k+i:Nat):Int))(u:bF):(ez j (wX k xs)).getD u=u:=by
 refine qZ ?_ u
 by_cases h1:j < (k:Int)
 exact .inl h1;refine .inr ?_
 by_cases h2:((k+xs.length:Nat):Int)≤j
 exact h2;exact absurd (show j=((k+(j - k).toNat:Nat):Int) by omega) (h _ (by omega))
theorem fN.inner {s s':DS}{n:Nat}{t:Int}{said:List (List UInt8)}{tail:List bF}(h:fN s n t said tail)(hu:Up s')(hl:s'.loose=[])(hz:s'.size=s.size)
  (hh:∀ j:Int,(∀ i,i < n→bY t said≤i→j≠((aB n t+i:Nat):Int))→aN s' j=aN s j):fN s' n t said ((dh s' (aB n t) n).drop (bY t said)):=by
 have hb:=fq t h.hn.2;have hm:=Int.emod_lt_of_pos t (show (0:Int) < 2 by decide);have hm0:=Int.emod_nonneg t (show (2:Int)≠0 by decide);have hlen:=h.len;refine ⟨hu,hl,h.hn,by rw[hz];exact h.size,h.ht,?_,?_,h.some_,h.short,?_,?_⟩;rw[hh _ (fun i _ _=>by omega)];exact h.title;have:=h.other;unfold Below jY at this⊢;rw[hz,hh _ (fun i _ _=>by omega)];exact this;have e:(dh s' (aB n t) n).take (bY t said)=dg t said 0:=by
  have h2:(dh s (aB n t) n).take (bY t said)=dg t said 0:=by rw[h.cur];exact List.take_left' rfl
  rw[←h2];apply List.ext_getElem?;intro i;rw[List.getElem?_take,List.getElem?_take]
  by_cases hi:i < bY t said
  rw[if_pos hi,if_pos hi,dF _ _ _ _ (by omega),dF _ _ _ _ (by omega),hh _ (fun a _ ha=>by omega)];rw[if_neg hi,if_neg hi]
 rw[←e,List.take_append_drop];intro i hi;rw[hh _ (fun a ha _=>by have:=qh t ha hi;omega)];exact h.Om i hi
theorem fN.snoc {s:DS}{n:Nat}{t:Int}{said:List (List UInt8)}{rest:List bF}{bs:List UInt8}(h:fN s n t said (aG t (said.length:Nat) bs++rest))(hb:bs.length≤40000):fN s n t (said++[bs]) rest where
 up:=h.up
 loose:=h.loose
 hn:=h.hn
 size:=h.size
 ht:=h.ht
 title:=h.title
 other:=h.other
 some_:=by simp
 short:=fun b hm=>by
  rcases List.mem_append.1 hm with hm | hm
  exact h.short b hm;obtain rfl:=List.mem_singleton.1 hm;exact hb
 cur:=by rw[vo,List.append_assoc,Nat.zero_add];exact h.cur
 Om:=h.Om
theorem Bf {s:DS}{n:Nat}{t:Int}{said:List (List UInt8)}(h:Live s n t said)(bs:List UInt8)(hb:bs.length≤40000)(hr:bY t said+bN bs.length≤n) :
  ((bg s ((aB n t+bY t said:Nat):Int) (aG t (said.length:Nat) bs)).2=0∧Live (bg s ((aB n t+bY t said:Nat):Int) (aG t (said.length:Nat) bs)).1 n t (said++[bs])∧(s.bC.on=false→(bg s ((aB n t+bY t said:Nat):Int) (aG t (said.length:Nat) bs)).1.bC.on=false))∨
  (s.bC.on=true∧(bg s ((aB n t+bY t said:Nat):Int) (aG t (said.length:Nat) bs)).2=9∧(bg s ((aB n t+bY t said:Nat):Int) (aG t (said.length:Nat) bs)).1.out=true∧∀ keep,vA (bp keep (bg s ((aB n t+bY t said:Nat):Int) (aG t (said.length:Nat) bs)).1) n t said∨vA (bp keep (bg s ((aB n t+bY t said:Nat):Int) (aG t (said.length:Nat) bs)).1) n t (said++[bs])):=by
 obtain ⟨tail,hL,hf⟩:=h;have YV:=fq t hL.hn.2;have hlen:=hL.len;have hsz:=hL.size;have hn:=hL.hn;have PZ:=hL.rO;obtain ⟨xs,hxs⟩:∃ xs,xs=aG t (said.length:Nat) bs:=⟨_,rfl⟩;have Ag:xs.length=bN bs.length:=by rw[hxs,bB]
 rw[←hxs];have Lc:∀ i,i < tail.length→tail[i]? = some (aN s ((aB n t+bY t said+i:Nat):Int)):=fun i hi=>by
  have h1:=dF s (aB n t) n (bY t said+i) (by omega);rw[hL.cur,List.getElem?_append_right (by unfold bY;omega),show bY t said+i - (dg t said 0).length=i from by unfold bY;omega]at h1;rw[h1];congr 3;omega
 rcases xN xs s (aB n t+bY t said) hL.up hL.loose (by omega) (by omega) with ⟨c1,c2,c3,c4,c5,c6⟩ | ⟨c0,c1,c2,c3,i,c4⟩
 refine .inl ⟨c1,?_,c5⟩;have h1:=hL.inner c2 c3 c4 (fun j hj=>by rw[c6,oR (fun i hi=>by have:=hj (bY t said+i) (by omega) (by omega);omega)]);have h2:=qi (n:=n) (xs:=xs) (k:=bY t said) (by omega) c6;have hk:((dh s (aB n t) n).take (bY t said)).length=bY t said:=by rw[List.length_take,fM];omega
 rw[h2,List.append_assoc,List.drop_left' hk,hL.cur]at h1;subst hxs;refine ⟨_,h1.snoc hb,fun x hx=>hf x ?_⟩;rw[List.drop_append,List.drop_of_length_le (by unfold bY;omega),j6]at hx;exact List.mem_of_mem_drop hx;refine .inr ⟨c0,c1,c2,fun keep=>?_⟩;obtain ⟨d1,d2,d3,d4,_⟩:=kf keep (bg s ((aB n t+bY t said:Nat):Int) xs).1;have pg:=fun j=>r9 keep hL.loose c3 c4 j
 have h1:=hL.inner d1 d2 (d3.trans c3.size) (fun j hj=>by
  rcases pg j with e | ⟨m,e1,e2⟩
  exact e;have hm:=(List.getElem?_eq_some_iff.1 e2).1;exact absurd (e1.trans (by congr 1;omega)) (hj (bY t said+m) (by omega) (by omega)))
 obtain ⟨tail',ht'⟩:∃ tail',tail'=(dh (bp keep (bg s ((aB n t+bY t said:Nat):Int) xs).1) (aB n t) n).drop (bY t said):=⟨_,rfl⟩;rw[←ht']at h1;have hlen':=h1.len;have Gj:Mix tail xs tail':=by
  refine ⟨by omega,fun a x hx=>?_⟩;have ha:a < tail'.length:=(List.getElem?_eq_some_iff.1 hx).1;rw[ht',List.getElem?_drop,dF _ _ _ _ (by omega)]at hx;obtain rfl:=Option.some.inj hx;rcases pg ((aB n t+(bY t said+a):Nat):Int) with e | ⟨m,e1,e2⟩
  rw[e,Lc a (by omega)];left;congr 3;omega;right;rw[←e2];congr 1;omega
 rw[hxs]at Gj;rcases Gi hL.ht.2 (by omega) hb hf Gj (by rw[←hxs];omega) with ⟨rest,e,hr'⟩ | hne
 rw[e]at h1;exact .inr (Live.Gh ⟨rest,h1.snoc hb,hr'⟩);refine .inl ⟨tail',h1,hne,fun x hx=>?_⟩;obtain ⟨a,ha⟩:=List.getElem?_of_mem hx;rcases Gj.2 a x ha with h2 | h2
 exact (hf x (List.mem_of_getElem? h2)).mono (by omega);have hm:a < bN bs.length:=by have:=(List.getElem?_eq_some_iff.1 h2).1;rw[bB]at this;exact this
 rw[fR t _ bs a hm]at h2;rw[←Option.some.inj h2];exact xJ _ t _ bs a hL.ht (by omega)
theorem fN.outer {s s':DS}{n:Nat}{t:Int}{said:List (List UInt8)}{tail:List bF}(h:fN s n t said tail)(hu:Up s')(hl:s'.loose=[])(hz:s'.size=s.size)
  (hh:∀ j:Int,(∀ i,i < n→j≠((aB n (t+1)+i:Nat):Int))→aN s' j=aN s j) (ho:∀ i,i < n→jE (t+1) (aN s' ((aB n (t+1)+i:Nat):Int))):fN s' n t said tail:=by
 have hb:=fq (t+1) h.hn.2;have hm:=Int.emod_lt_of_pos t (show (0:Int) < 2 by decide);have hm0:=Int.emod_nonneg t (show (2:Int)≠0 by decide);refine ⟨hu,hl,h.hn,by rw[hz];exact h.size,h.ht,?_,?_,h.some_,h.short,?_,ho⟩;rw[hh _ (fun i _=>by omega)];exact h.title;have:=h.other;unfold Below jY at this⊢;rw[hz,hh _ (fun i _=>by omega)];exact this;rw[m5 fun i hi=>hh _ (fun a ha=>by have:=qh t hi ha;omega)];exact h.cur
theorem Bg {t:Int}{x:bF} : ∀ {said:List (List UInt8)} {j:Nat},x∈dg t said j→∃ j' b k,x=ia t j' b k
 | [],_,h=>by cases h
 | b::l,j,h=>by
  rw[dg]at h;rcases List.mem_append.1 h with h | h
  rw[aG]at h;obtain ⟨k,_,hk⟩:=List.mem_map.1 h;exact ⟨_,b,k,hk.symm⟩;exact Bg h
theorem fN.Jg {s s':DS}{n:Nat}{t:Int}{said:List (List UInt8)}{tail rest:List bF}{bs:List UInt8}(h:fN s n t said tail)(hf:∀ x∈tail,jE (t+2) x)(hb:bs.length≤40000)(ht:t+1≤4294967295)
  (MA:dh s (aB n (t+1)) n=aG (t+1) 0 bs++rest) (hu:Up s') (hl:s'.loose=[]) (hz:s'.size=s.size) (o_:aN s' (((t+1) % 2).toNat:Int)=bW (t+1) n) (hh:∀ j:Int,j≠(((t+1) % 2).toNat:Int)→aN s' j=aN s j):fN s' n (t+1) [bs] rest:=by
 have YV:=fq (t+1) h.hn.2;have hfa:=fq t h.hn.2;have h0:=h.ht;have hm:((t+1) % 2).toNat=1 - (t % 2).toNat∧1 - ((t+1) % 2).toNat=(t % 2).toNat:=by omega
 refine ⟨hu,hl,h.hn,by rw[hz];exact h.size,by omega,o_,?_,by simp,fun b hm=>by obtain rfl:=List.mem_singleton.1 hm;exact hb,?_,fun i hi=>?_⟩;rw[hm.2,hh _ (by omega),h.title];intro _;rw[(oa t n h.ht h.hn.2).2];omega;rw[m5 fun i hi=>hh _ (by omega),MA,dg,dg,List.append_nil];rfl;rw[Je,hh _ (by omega)];have hmem:aN s ((aB n t+i:Nat):Int)∈dg t said 0++tail:=by rw[←h.cur];exact List.mem_of_getElem? (dF s (aB n t) n i hi)
 rw[show t+1+1=t+2 from by omega];rcases List.mem_append.1 hmem with hm | hm
 obtain ⟨j',b,k,e⟩:=Bg hm;rw[e];exact xJ _ t _ b k h.ht (by omega);exact hf _ hm
theorem Jh {s:DS}{n:Nat}{t:Int}{said:List (List UInt8)}(h:Live s n t said)(bs:List UInt8)(hb:bs.length≤40000)(hr:bN bs.length≤n)(ht:t+1≤4294967295) :
  ((eT n (t+1) bs s).2=0∧Live (eT n (t+1) bs s).1 n (t+1) [bs]∧(s.bC.on=false→(eT n (t+1) bs s).1.bC.on=false))∨
  (s.bC.on=true∧(eT n (t+1) bs s).2=9∧(eT n (t+1) bs s).1.out=true∧∀ keep,vA (bp keep (eT n (t+1) bs s).1) n t said∨vA (bp keep (eT n (t+1) bs s).1) n (t+1) [bs]):=by
 obtain ⟨tail,hL,hf⟩:=h;have YV:=fq (t+1) hL.hn.2;have hsz:=hL.size;have hn:=hL.hn;obtain ⟨xs,hxs⟩:∃ xs,xs=aG (t+1) 0 bs:=⟨_,rfl⟩;have Ag:xs.length=bN bs.length:=by rw[hxs,bB]
 have s_:∀ m x,xs[m]? = some x→jE (t+1) x:=fun m x hx=>by
  have hm:m < bN bs.length:=by have:=(List.getElem?_eq_some_iff.1 hx).1;omega
  rw[hxs,fR _ _ bs m hm]at hx;rw[←Option.some.inj hx];exact zi _ _ bs m
 have hft:∀ x∈tail,jE (t+2) x:=fun x hx=>(hf x hx).mono (by omega)
 have TR:eT n (t+1) bs s=if (bg s (aB n (t+1):Nat) xs).2=0 then bg (bg s (aB n (t+1):Nat) xs).1 (((t+1) % 2).toNat:Nat) [bW (t+1) n] else bg s (aB n (t+1):Nat) xs:=by rw[hxs];rfl
 rcases xN xs s (aB n (t+1)) hL.up hL.loose (by omega) (by omega) with ⟨c1,c2,c3,c4,c5,c6⟩ | ⟨c0,c1,c2,c3,i,c4⟩
 rw[TR,if_pos c1];obtain ⟨s1,dZ⟩:∃ s1,s1=(bg s (aB n (t+1):Nat) xs).1:=⟨_,rfl⟩;rw[←dZ]at c2 c3 c4 c5 c6⊢;have sR:fN s1 n t said tail:=hL.outer c2 c3 c4 (fun j hj=>by rw[c6,oR (fun i hi=>hj i (by omega))]) (fun i hi=>by
  rw[c6]
  by_cases h1:i < xs.length
  rw[zu h1,List.getElem?_eq_getElem h1];exact s_ i _ (List.getElem?_eq_getElem h1);rw[qZ (.inr (by omega))];exact hL.Om i hi)
 have MA:dh s1 (aB n (t+1)) n=xs++(dh s (aB n (t+1)) n).drop xs.length:=by
  have:=qi (s:=s) (s':=s1) (fr:=aB n (t+1)) (n:=n) (k:=0) (xs:=xs) (by omega) (fun j=>by rw[c6];rfl);rw[this,List.take_zero,j6,Nat.zero_add]
 have On:∀ x∈(dh s (aB n (t+1)) n).drop xs.length,jE (t+1) x:=fun x hx=>by
  obtain ⟨i,hi⟩:=List.getElem?_of_mem (List.mem_of_mem_drop hx);have hi2:i < n:=by have:=(List.getElem?_eq_some_iff.1 hi).1;rw[fM]at this;exact this
  rw[dF _ _ _ _ hi2]at hi;rw[←Option.some.inj hi];exact hL.Om i hi2
 have hm2:((t+1) % 2).toNat < 2:=by omega
 rcases xN [bW (t+1) n] s1 ((t+1) % 2).toNat c2 c3 (by omega) (by simp only[List.length_singleton];omega) with ⟨e1,e2,e3,e4,e5,e6⟩ | ⟨e0,e1,e2,e3,i,e4⟩
 refine .inl ⟨e1,⟨_,sR.Jg hft hb ht (by rw[←hxs];exact MA) e2 e3 e4 ?_ ?_,On⟩,fun h=>e5 (c5 h)⟩;have:=zu (xs:=[bW (t+1) n]) (k:=((t+1) % 2).toNat) (i:=0) (by simp) (aN s1 ((((t+1) % 2).toNat:Nat):Int));rw[e6];exact this;intro j hj;rw[e6,oR (fun i hi=>by have h0:i=0:=(by simpa using hi);subst h0;exact hj)];refine .inr ⟨?_,e1,e2,fun keep=>?_⟩;cases hx:s.bC.on with
 | true=>rfl
 | false=>rw[c5 hx]at e0;cases e0
 obtain ⟨d1,d2,d3,d4,_⟩:=kf keep (bg s1 (((t+1) % 2).toNat:Nat) [bW (t+1) n]).1;have pg:=fun j=>r9 keep c3 e3 e4 j
 have hne:∀ j:Int,j≠(((t+1) % 2).toNat:Int)→aN (bp keep (bg s1 (((t+1) % 2).toNat:Nat) [bW (t+1) n]).1) j=aN s1 j:=fun j hj=>by
  rcases pg j with e | ⟨m,q1,q2⟩
  exact e;have hm:m=0:=by have:=(List.getElem?_eq_some_iff.1 q2).1;simpa using this
  subst hm;exact absurd q1 hj
 rcases pg (((t+1) % 2).toNat:Int) with e | ⟨m,q1,q2⟩
 refine .inl (Live.Gh ⟨tail,sR.same d1 d2 (d3.trans e3.size) (fun j=>?_),hf⟩)
 by_cases hj:j=(((t+1) % 2).toNat:Int)
 rw[hj];exact e;exact hne j hj;have hm:m=0:=by have:=(List.getElem?_eq_some_iff.1 q2).1;simpa using this
 subst hm;exact .inr (Live.Gh ⟨_,sR.Jg hft hb ht (by rw[←hxs];exact MA) d1 d2 (d3.trans e3.size) (Option.some.inj q2).symm hne,On⟩);rw[TR,if_neg (by rw[c1];decide)];refine .inr ⟨c0,c1,c2,fun keep=>.inl ?_⟩;obtain ⟨d1,d2,d3,d4,_⟩:=kf keep (bg s (aB n (t+1):Nat) xs).1;have pg:=fun j=>r9 keep hL.loose c3 c4 j
 refine Live.Gh ⟨tail,hL.outer d1 d2 (d3.trans c3.size) (fun j hj=>?_) (fun i hi=>?_),hf⟩;rcases pg j with e | ⟨m,q1,q2⟩
 exact e;have hm:=(List.getElem?_eq_some_iff.1 q2).1;exact absurd q1 (hj m (by omega));rcases pg ((aB n (t+1)+i:Nat):Int) with e | ⟨m,q1,q2⟩
 rw[e];exact hL.Om i hi;exact s_ m _ q2
theorem oS {j:Int} : ∀ {ws:List rN},(∀ y∈ws,y.b=zB)→(ez j ws).getD zB=zB∧((∃ y∈ws,y.at_=j)→ez j ws=some zB)∧((∀ y∈ws,y.at_≠j)→ez j ws=none)
 | [],_=>⟨rfl,fun ⟨_,h,_⟩=>by (cases h),fun _=>rfl⟩
 | x::l,h=>by
  obtain ⟨h1,h2,h3⟩:=oS (j:=j) (ws:=l) (fun y hy=>h y (by simp[hy]));have hx:=h x (by simp);rw[ez]
  by_cases e:x.at_=j
  rw[if_pos e,hx];refine ⟨?_,fun _=>?_,fun hn=>absurd e (hn x (by simp))⟩;cases hf:ez j l with
  | none=>rfl
  | some u=>rw[hf]at h1;exact h1
  cases hf:ez j l with
  | none=>rfl
  | some u=>rw[hf]at h1;show some u=some zB;rw[show u=zB from h1]
  rw[if_neg e,Option.or_none];refine ⟨h1,fun ⟨y,hy,he⟩=>?_,fun hn=>h3 fun y hy=>hn y (by simp[hy])⟩;rcases List.mem_cons.1 hy with rfl | hy
  exact absurd he e;exact h2 ⟨y,hy,he⟩
theorem Ji {x:bF}(h:x.l=zB.l):x=zB:=bF.ext' h
theorem Jj (fr:Nat):∀ (xs:List bF) (i:Nat) (sy:Bool) (s:DS),Up s→((fr+i+xs.length:Nat):Int)≤s.size→
    Alike s (gp fr xs i sy s).1∧∃ ws:List rN,(gp fr xs i sy s).1.loose=s.loose++ws∧(∀ y∈ws,y.b=zB∧∃ m,m < xs.length∧y.at_=((fr+i+m:Nat):Int))∧
      (((gp fr xs i sy s).2.1=0∧(gp fr xs i sy s).1.out=false∧(s.bC.on=false→(gp fr xs i sy s).1.bC.on=false)∧(∀ (m:Nat) (x:bF),xs[m]? = some x→x=zB∨∃ y∈ws,y.at_=((fr+i+m:Nat):Int))∧(gp fr xs i sy s).2.2=(sy||!ws.isEmpty))∨
       (s.bC.on=true∧(gp fr xs i sy s).2.1=9∧(gp fr xs i sy s).1.out=true))
  | [],i,sy,s,hu,_=>by
    rw[gp];exact ⟨⟨rfl,rfl,rfl⟩,[],by simp,fun y hy=>by (cases hy),.inl ⟨rfl,hu.on,id,fun m x h=>by (simp at h),by simp⟩⟩
  | x::xs,i,sy,s,hu,hs=>by
    simp only[jb]at hs;rw[gp]
    by_cases hz:x.l=zB.l
    · rw[if_pos hz]
      obtain ⟨ha,ws,hw,hy,hc⟩:=Jj fr xs (i+1) sy s hu (by omega);refine ⟨ha,ws,hw,fun y h=>⟨(hy y h).1,?_⟩,?_⟩
      · obtain ⟨m,h1,h2⟩:=(hy y h).2
        exact ⟨m+1,by simp only[jb];omega,by rw[h2];congr 1;omega⟩
      · rcases hc with ⟨c1,c2,c3,c4,c5⟩ | hc
        · refine .inl ⟨c1,c2,c3,fun m u h=>?_,c5⟩
          cases m with
          | zero=>obtain rfl:x=u:=(by simpa using h);exact .inl (Ji hz)
          | succ m=>
            rcases c4 m u (by simpa using h) with h1 | ⟨y,h1,h2⟩
            · exact .inl h1
            · exact .inr ⟨y,h1,by rw[h2];congr 1;omega⟩
        · exact .inr hc
    · rw[if_neg hz]
      rcases vz hu (k:=((fr+i:Nat):Int)) (by omega) (fun s=>dU s ((fr+i:Nat):Int) zB) with ⟨h1,h2,h3⟩ | ⟨h1,h2,h3⟩
      · rw[if_pos h2]
        have e:l_ s ((fr+i:Nat):Int) zB=oK (dU { s with bC:=(ek s.bC).2 } ((fr+i:Nat):Int) zB):=h3;have My:Up (l_ s ((fr+i:Nat):Int) zB):=by rw[e];exact ⟨hu.on,hu.fit⟩
        have dZ:(l_ s ((fr+i:Nat):Int) zB).size=s.size:=by rw[e];rfl
        have hl:(l_ s ((fr+i:Nat):Int) zB).loose=s.loose++[⟨((fr+i:Nat):Int),zB⟩]:=by rw[e];rfl
        have Jd:s.bC.on=false→(l_ s ((fr+i:Nat):Int) zB).bC.on=false:=fun h=>by rw[e];exact r8 h
        obtain ⟨ha,ws,hw,hy,hc⟩:=Jj fr xs (i+1) true (l_ s ((fr+i:Nat):Int) zB) My (by rw[dZ];omega);refine ⟨⟨ha.size.trans dZ,ha.bD.trans (by rw[e];rfl),ha.cg.trans (by rw[e];rfl)⟩,⟨((fr+i:Nat):Int),zB⟩::ws,by rw[hw,hl,List.append_assoc];rfl,fun y h=>?_,?_⟩
        · rcases List.mem_cons.1 h with rfl | h
          · exact ⟨rfl,0,by simp,rfl⟩
          · obtain ⟨m,q1,q2⟩:=(hy y h).2
            exact ⟨(hy y h).1,m+1,by simp only[jb];omega,by rw[q2];congr 1;omega⟩
        · rcases hc with ⟨c1,c2,c3,c4,c5⟩ | ⟨c0,c1,c2⟩
          · refine .inl ⟨c1,c2,fun h=>c3 (Jd h),fun m u h=>?_,by rw[c5];simp⟩
            cases m with
            | zero=>exact .inr ⟨_,List.mem_cons_self ..,rfl⟩
            | succ m=>
              rcases c4 m u (by simpa using h) with h1 | ⟨y,h1,h2⟩
              · exact .inl h1
              · exact .inr ⟨y,List.mem_cons_of_mem _ h1,by rw[h2];congr 1;omega⟩
          · refine .inr ⟨?_,c1,c2⟩
            cases hx:s.bC.on with
            | true=>rfl
            | false=>rw[Jd hx]at c0;cases c0
      · rw[if_neg (by rw[h2];decide)]
        have e:l_ s ((fr+i:Nat):Int) zB = { s with bC:=(ek s.bC).2,out:=true }:=h3;refine ⟨by rw[e];exact ⟨rfl,rfl,rfl⟩,[],by rw[e];simp,fun y hy=>by (cases hy),.inr ⟨?_,h2,by rw[e]⟩⟩;cases hx:s.bC.on with
        | true=>rfl
        | false=>rw[tW hx]at h1;cases h1
theorem Dl {s:DS}{n:Nat}{t:Int}{said:List (List UInt8)}{tail:List bF}(h:fN s n t said tail)(hn:lB t (said.length:Nat) tail) :
  ∃ s3,Up s3∧s3.loose=[]∧s3.size=s.size∧s3.bC=s.bC∧(∀ j,aN s3 j=aN s j)∧fN s3 n t said tail∧aR s=if (n9 (gp (aB n t) tail (bY t said) false s3)).2=0 then ((n9 (gp (aB n t) tail (bY t said) false s3)).1,0,⟨n,t,said,bY t said⟩) else ((n9 (gp (aB n t) tail (bY t said) false s3)).1,(n9 (gp (aB n t) tail (bY t said) false s3)).2,Di):=by
 have hb:=fq t h.hn.2;have hsz:=h.size;obtain ⟨b1,b2,b3,b4,b5,b6,b7⟩:=Be (aB n t) n 0 (oK (oK s)) ⟨h.up.on,h.up.fit⟩ (by show ((aB n t+0+n:Nat):Int)≤s.size;omega);have hf:(cq (aB n t) n 0 (oK (oK s))).2.2=dg t said 0++tail:=by
  rw[b2,←h.cur,dh];apply List.map_congr_left;intro a _
  show aN s _=_
  rw[Nat.zero_add]
 have hrd:eJ t (dg t said 0++tail) (dg t said 0++tail).length 0 0=(said,bY t said):=by
  have:=Dd tail said [] 0 (dg t said 0++tail).length h.short (by rw[List.length_append];exact Nat.le_refl _) (by rw[Nat.zero_add];exact hn);simpa [bY] using this
 refine ⟨(cq (aB n t) n 0 (oK (oK s))).1,b3,b4.trans h.loose,b5,b6,b7,h.same b3 (b4.trans h.loose) b5 b7,?_⟩;have RQ:(cq (aB n t) n 0 (oK (oK s))).1.loose=[]:=b4.trans h.loose;rw[aR,Jf h]
 show (if (0:Int)=0 then mu ((n:Int).toNat) t (oK (oK s)) else _)=_
 rw[if_pos rfl,Int.toNat_natCast,mu,if_pos b1,hf,lC,hrd];simp only[];rw[if_neg h.some_,jF,RQ,show (dg t said 0++tail).drop (bY t said)=tail from List.drop_left' rfl];rfl
theorem xO {s:DS}{n:Nat}{t:Int}{said:List (List UInt8)}(h:vA s n t said) :
  ((aR s).2.1=0∧Clean (aR s).1 n t said∧(aR s).2.2=⟨n,t,said,bY t said⟩∧(s.bC.on=false→(aR s).1.bC.on=false))∨
  (s.bC.on=true∧(aR s).2.1=9∧(aR s).1.out=true∧∀ keep,vA (bp keep (aR s).1) n t said):=by
 obtain ⟨tail,hL,hno,hfr⟩:=h;obtain ⟨s3,u3,l3,z3,a3,h3,Hs,ho⟩:=Dl hL hno;have hb:=fq t hL.hn.2;have hsz:=Hs.size;have hlen:=hL.len;have PZ:=hL.rO;have hn:=hL.hn;have Lc:∀ i,i < tail.length→tail[i]? = some (aN s3 ((aB n t+bY t said+i:Nat):Int)):=fun i hi=>by
  have h1:=dF s3 (aB n t) n (bY t said+i) (by omega);rw[Hs.cur,List.getElem?_append_right (by unfold bY;omega),show bY t said+i - (dg t said 0).length=i from by unfold bY;omega]at h1;rw[h1];congr 3;omega
 obtain ⟨ha,ws,hw,hy,hc⟩:=Jj (aB n t) tail (bY t said) false s3 u3 (by omega);rw[l3,j6]at hw
 -- what is cut on the way
 have cut:∀ (r:DS) (keep:List Bool),Alike s3 r→r.loose=ws→vA (bp keep r) n t said:=fun r keep har hrl=>by
  obtain ⟨d1,d2,d3,d4,d5⟩:=kf keep r;have hj:∀ j,aN (bp keep r) j=aN s3 j∨∃ m,m < tail.length∧j=((aB n t+bY t said+m:Nat):Int)∧aN (bp keep r) j=zB:=fun j=>by
   rcases d5 j with e | ⟨y,q1,q2,q3⟩
   ·rw[e,har.cg,fj l3];exact .inl rfl
   ·rw[hrl]at q1
    obtain ⟨p1,m,p2,p3⟩:=hy y q1;exact .inr ⟨m,p2,q2.symm.trans p3,by rw[q3,p1]⟩
  have h1:=Hs.inner d1 d2 (d3.trans har.size) (fun j hj2=>by
   rcases hj j with e | ⟨m,q1,q2,_⟩
   ·exact e
   ·exact absurd (q2.trans (by congr 1;omega)) (hj2 (bY t said+m) (by omega) (by omega)))
  have Gj:∀ (i:Nat) (x:bF),((dh (bp keep r) (aB n t) n).drop (bY t said))[i]? = some x→tail[i]? = some x∨x=zB:=fun i x hx=>by
   have hi:i < tail.length:=by
    have:=(List.getElem?_eq_some_iff.1 hx).1;rw[List.length_drop,fM]at this;omega
   rw[List.getElem?_drop,dF _ _ _ _ (by omega)]at hx;obtain rfl:=Option.some.inj hx;rcases hj ((aB n t+(bY t said+i):Nat):Int) with e | ⟨_,_,_,e⟩
   ·rw[e,Lc i hi];left;congr 3;omega
   ·exact .inr e
  refine ⟨_,h1,Dk hL.ht.2 (by omega) hno Gj,fun x hx=>?_⟩;obtain ⟨i,hi⟩:=List.getElem?_of_mem hx;rcases Gj i x hi with h2 | h2
  ·exact hfr x (List.mem_of_getElem? h2)
  ·rw[h2];exact mX _
 -- what an V4 that is not cut leaves
 have done:∀ (r:DS),Up r→r.loose=[]→r.size=s3.size→(∀ j,aN r j=(ez j ws).getD (aN s3 j))→(∀ (m:Nat) (x:bF),tail[m]? = some x→x=zB∨∃ y∈ws,y.at_=((aB n t+bY t said+m:Nat):Int))→Clean r n t said:=fun r RN hlr V5 hhr hall=>by
  have h1:=Hs.inner RN hlr V5 (fun j hj2=>by
   rw[hhr,(oS (j:=j) fun y P0=>(hy y P0).1).2.2 (fun y P0 e=>by
    obtain ⟨_,m,p2,p3⟩:=hy y P0;exact hj2 (bY t said+m) (by omega) (by omega) (e.symm.trans (p3.trans (by congr 1;omega))))];rfl)
  refine ⟨tail.length,?_⟩;have e:(dh r (aB n t) n).drop (bY t said)=List.replicate tail.length zB:=by
   apply List.ext_getElem?;intro i;rw[List.getElem?_drop,List.getElem?_replicate]
   by_cases hi:i < tail.length
   ·rw[if_pos hi,dF _ _ _ _ (by omega),hhr]
    rcases hall i _ (Lc i hi) with q | ⟨y,q1,q2⟩
    ·congr 1
     have hz:=oS (j:=((aB n t+(bY t said+i):Nat):Int)) fun y P0=>(hy y P0).1
     rw[show (aB n t+(bY t said+i):Nat)=aB n t+bY t said+i from by omega,q,←show (aB n t+(bY t said+i):Nat)=aB n t+bY t said+i from by omega];exact hz.1
    ·congr 1
     rw[(oS fun y P0=>(hy y P0).1).2.1 ⟨y,q1,q2.trans (by congr 1;omega)⟩];rfl
   ·rw[if_neg hi,List.getElem?_eq_none (by rw[fM];omega)]
  rw[e]at h1;exact h1
 rcases hc with ⟨c1,c2,c3,c4,c5⟩ | ⟨c0,c1,c2⟩
 ·have RN:Up (gp (aB n t) tail (bY t said) false s3).1:=⟨c2,by rw[ha.bD];exact u3.fit⟩
  cases Tq:ws.isEmpty with
  | true=>
   have hw0:ws=[]:=List.isEmpty_iff.1 Tq;have hr:n9 (gp (aB n t) tail (bY t said) false s3)=((gp (aB n t) tail (bY t said) false s3).1,0):=by
    rw[n9,if_pos c1,c5,Tq,if_neg (by simp)]
   rw[ho,hr,if_pos rfl];refine .inl ⟨rfl,done _ RN (by rw[hw,hw0]) ha.size (fun j=>?_) c4,rfl,fun h=>c3 (by rw[a3];exact h)⟩;rw[hw0,fj (by rw[hw,hw0]),ha.cg,fj l3];rfl
  | false=>
   have hr:n9 (gp (aB n t) tail (bY t said) false s3)=(oL (gp (aB n t) tail (bY t said) false s3).1,cS (gp (aB n t) tail (bY t said) false s3).1 0 true):=by
    rw[n9,if_pos c1,c5,Tq,if_pos (by simp)]
   rcases Ol RN (by rw[ha.size,z3];have:=hL.size;omega) with ⟨d1,d2,d3,d4,d5,d6,d7⟩ | ⟨d0,d1,d2,d3,d4⟩
   ·rw[ho,hr,if_pos d1]
    refine .inl ⟨rfl,done _ ⟨d2,by rw[d6];exact RN.fit⟩ d3 (d5.trans ha.size) (fun j=>?_) c4,rfl,fun h=>d7 (c3 (by rw[a3];exact h))⟩
    show aN (oL _) j=_
    rw[d4,aN,hw,ha.cg,fj l3];cases ez j ws <;> rfl
   ·rw[ho,hr,if_neg (by rw[d1];show ¬(9:Int)=0;decide)]
    refine .inr ⟨?_,d1,d2,fun keep=>cut _ keep ⟨d4.size.trans ha.size,d4.bD.trans ha.bD,d4.cg.trans ha.cg⟩ (d3.trans hw)⟩;cases hx:s.bC.on with
    | true=>rfl
    | false=>rw[c3 (by rw[a3];exact hx)]at d0;cases d0
 ·have hr:n9 (gp (aB n t) tail (bY t said) false s3)=((gp (aB n t) tail (bY t said) false s3).1,9):=by
   rw[n9,if_neg (by rw[c1];decide),c1]
  rw[ho,hr,if_neg (by show ¬(9:Int)=0;decide)];exact .inr ⟨by rw[←a3];exact c0,rfl,c2,fun keep=>cut _ keep ha hw⟩
theorem lD (n:Nat)(hn:4≤n∧n≤1000):(gK n (gZ ((2*n+2:Nat):Int))).2=0∧Live (gK n (gZ ((2*n+2:Nat):Int))).1 n 0 [[]]∧(gK n (gZ ((2*n+2:Nat):Int))).1.bC.on=false:=by
 obtain ⟨s0,hs0⟩:∃ s0,s0=gZ ((2*n+2:Nat):Int):=⟨_,rfl⟩;rw[←hs0];have hu0:Up s0:=by rw[hs0];exact ⟨rfl,rfl⟩
 have VV:s0.size=((2*n+2:Nat):Int):=by rw[hs0];rfl
 have ha0:s0.bC.on=false:=by rw[hs0];rfl
 have hh0:∀ j,aN s0 j=zB:=fun j=>by rw[hs0];rfl
 have off:∀ {s:DS},s.bC.on=false→¬s.bC.on=true:=fun h h2=>by rw[h]at h2;cases h2
 rcases xN (List.replicate (2*n+2) zB) s0 0 hu0 (by rw[hs0];rfl) (by omega) (by rw[List.length_replicate];omega) with ⟨c1,c2,c3,c4,c5,c6⟩ | ⟨c0,_⟩
 replace c1:(bg s0 0 (List.replicate (2*n+2) zB)).2=0:=c1;have YK:gK n s0=eT n 0 [] (bg s0 0 (List.replicate (2*n+2) zB)).1:=by rw[gK,if_pos c1]
 rw[YK];obtain ⟨s1,dZ⟩:∃ s1,s1=(bg s0 0 (List.replicate (2*n+2) zB)).1:=⟨_,rfl⟩;replace c2:Up s1:=by rw[dZ];exact c2
 replace c3:s1.loose=[]:=by rw[dZ];exact c3
 replace c4:s1.size=s0.size:=by rw[dZ];exact c4
 replace c5:s1.bC.on=false:=by rw[dZ];exact c5 ha0
 have P1:∀ j,aN s1 j=zB:=fun j=>by
  rw[dZ];have:=c6 j;rw[hh0,qY]at this;refine Eq.trans this ?_;split;rw[List.getElem?_replicate];split <;> rfl
  rfl
 rw[←dZ];have Ag:(aG 0 0 []).length=1:=rfl;rcases xN (aG 0 0 []) s1 2 c2 c3 (by omega) (by rw[Ag];omega) with ⟨d1,d2,d3,d4,d5,d6⟩ | ⟨d0,_⟩
 have YW:aB n 0=2:=by simp[aB]
 replace d1:(bg s1 ((2:Nat):Int) (aG 0 0 [])).2=0:=d1;have hbg:eT n 0 [] s1=bg (bg s1 ((2:Nat):Int) (aG 0 0 [])).1 (((0:Int) % 2).toNat:Nat) [bW 0 n]:=by
  show (if (bg s1 (aB n 0:Nat) (aG 0 0 [])).2=0 then bg (bg s1 (aB n 0:Nat) (aG 0 0 [])).1 (((0:Int) % 2).toNat:Nat) [bW 0 n] else bg s1 (aB n 0:Nat) (aG 0 0 []))=_
  rw[YW];exact if_pos d1
 rw[hbg];obtain ⟨s2,j0⟩:∃ s2,s2=(bg s1 ((2:Nat):Int) (aG 0 0 [])).1:=⟨_,rfl⟩;replace d2:Up s2:=by rw[j0];exact d2
 replace d3:s2.loose=[]:=by rw[j0];exact d3
 replace d4:s2.size=s1.size:=by rw[j0];exact d4
 replace d5:s2.bC.on=false:=by rw[j0];exact d5 c5
 replace d6:∀ j,aN s2 j=(ez j (wX 2 (aG 0 0 []))).getD (aN s1 j):=fun j=>by rw[j0];exact d6 j
 rw[←j0];rcases xN [bW 0 n] s2 0 d2 d3 (by omega) (by simp only[List.length_singleton];omega) with ⟨e1,e2,e3,e4,e5,e6⟩ | ⟨e0,_⟩
 have h0:aN (bg s2 (((0:Int) % 2).toNat:Nat) [bW 0 n]).1 0=bW 0 n:=by
  have:=e6 0;exact this
 have hj:∀ j:Int,j≠0→aN (bg s2 (((0:Int) % 2).toNat:Nat) [bW 0 n]).1 j=aN s2 j:=fun j hj=>by
  have:=e6 j;rw[oR (fun i hi=>by have h0:i=0:=(by simpa using hi);subst h0;exact hj)]at this;exact this
 refine ⟨e1,⟨List.replicate (n - 1) zB,⟨e2,e3,hn,?_,by omega,h0,?_,by simp,fun b hb=>?_,?_,fun i hi=>?_⟩,fun x hx=>?_⟩,e5 d5⟩;have:(bg s2 (((0:Int) % 2).toNat:Nat) [bW 0 n]).1.size=s2.size:=e4;rw[this];omega;rw[hj _ (by decide),d6,oR (fun i hi=>by rw[Ag]at hi;omega),P1];intro hb;rw[show i_ zB=0 from by decide]at hb;simp[jY]at hb;obtain rfl:=List.mem_singleton.1 hb;simp;have h1:=qi (s:=s1) (s':=s2) (fr:=2) (n:=n) (k:=0) (xs:=aG 0 0 []) (by rw[Ag];omega) (fun j=>d6 j);rw[YW,m5 fun i hi=>hj _ (by omega),h1,List.take_zero,j6,dg,dg,List.append_nil]
 congr 1
 rw[Ag,dh,show (fun i=>aN s1 ((2+i:Nat):Int))=fun _=>zB from funext fun i=>P1 _];rw[List.map_const',List.length_range,List.drop_replicate];rw[hj _ (by have:=fq (0+1) (n:=n) hn.2;omega),d6,oR (fun a ha=>by rw[Ag]at ha;have:=qh 0 (n:=n) (i:=a) (j:=i) (by omega) hi;rw[YW]at this;omega),P1];exact mX _;rw[(List.mem_replicate.1 hx).2];exact mX _;exact absurd e0 (off d5);exact absurd d0 (off c5);exact absurd c0 (off ha0)
theorem TS (p q:Option Addr)(c e:Nat)(xs ys:List UInt8)(_hl:xs.length≤1000000∧ys.length≤1000000)(w0:World)(f1:Fx w0 (av p xs))(f2:Fx w0 (av q ys)) :
  aT prog 42 [.slice p xs.length c,.slice q ys.length e] w0 (fun _=>False) fun v _=>v=.bool (decide (xs=ys)):=by
 refine E1 func42 rfl ntmps42 (Wd.begin (fs:=[iE p (aa xs),iE q (aa ys)]) (by simp;exact ⟨f1.imp fun _ h=>h.1,f2.imp fun _ h=>h.1⟩)) ?_;intro a S;refine FF ?_;intro a S;refine aD S (fun _=>?_);rfl
abbrev xP (ys:List jK):List (List UInt8):=ys.map jK.bs
theorem Bh {cl:List jK}{i:Nat}{z:Nat × jK}(h:(nB cl)[i]? = some z):i < cl.length∧z=(i+1,aq cl i):=by
 rw[nB,List.getElem?_map]at h;have hi:i < cl.length:=by
  cases hr:(List.range cl.length)[i]? with
  | none=>rw[hr]at h;cases h
  | some a=>have:=(List.getElem?_eq_some_iff.1 hr).1;simpa using this
 rw[List.getElem?_range hi]at h;exact ⟨hi,(Option.some.inj h).symm⟩
structure LG where
 m:Nat
 p:Option Addr
 c:Nat
 s:DS
 q:Option Addr
 e:Nat
 x:WS
abbrev ct (b g:Nat)(L:LG):Wk.Item:=both (ay b L.m L.p L.c L.s) (jg g b L.q L.e L.x)
structure YX (L:LG)(said:List (List UInt8)):Prop where
 Jk:xP L.x.said=said
 some_:said≠[]
 rO:said.length≤1000
 short:∀ b∈said,b.length≤40000
structure LgOk (L:LG)(n:Nat)(t:Int)(said:List (List UInt8)):Prop where
 num:L.x.n=n
 au:L.x.au=t
 Jk:xP L.x.said=said
 fin:L.x.fin=bY t said
 broken:L.x.broken=false
 live:Live L.s n t said
theorem Dm {b g:Nat}{L:LG}{w:World}(h:(ct b g L).holds w):L.x.said.length≤L.e:=gm h.2.1.2.1.1
theorem Gk {ys:List jK}{w:World}(h:(dr ys).holds w):Fx w (n8 ys):=fun _w' ha y hy=>zf (fun ad hp=>ha.iB ((h y hy).1 ad hp) (fun h=>h)) (h y hy).2
theorem vC (n:Nat)(t:Int)(bs:List UInt8)(hb:bs.length≤40000)(s:DS):(eT n t bs s).1.loose.length≤s.loose.length+840:=by
 have h1:=iu s (aB n t:Nat) (aG t 0 bs);have h2:=iu (bg s (aB n t:Nat) (aG t 0 bs)).1 ((t % 2).toNat:Nat) [bW t n];have h3:=tU _ hb;rw[bB]at h1;simp only[List.length_singleton]at h2;have e:eT n t bs s=if (bg s (aB n t:Nat) (aG t 0 bs)).2=0 then bg (bg s (aB n t:Nat) (aG t 0 bs)).1 ((t % 2).toNat:Nat) [bW t n] else bg s (aB n t:Nat) (aG t 0 bs):=rfl
 rw[e];split <;> omega
theorem qj (fr:Nat):∀ (xs:List bF) (i:Nat) (sy:Bool) (s:DS),(gp fr xs i sy s).1.loose.length≤s.loose.length+xs.length
 | [],_,_,_=>Nat.le_refl _
 | x::xs,i,sy,s=>by
  rw[gp,jb];split;have:=qj fr xs (i+1) sy s;omega;split;have h1:=qj fr xs (i+1) true (l_ s ((fr+i:Nat):Int) zB);have h2:=mo s ((fr+i:Nat):Int) zB;omega;have h2:=mo s ((fr+i:Nat):Int) zB
  show (l_ s ((fr+i:Nat):Int) zB).loose.length≤_;omega
theorem ob (fr:Nat):∀ (k i:Nat) (s:DS),(cq fr k i s).1.loose=s.loose∧(cq fr k i s).2.2.length≤k
 | 0,_,_=>⟨rfl,Nat.le_refl _⟩
 | k+1,i,s=>by
  rw[cq];split;obtain ⟨h1,h2⟩:=ob fr k (i+1) (lA s ((fr+i:Nat):Int));exact ⟨h1.trans (jh _ _),by simp only[jb];omega⟩;exact ⟨jh _ _,Nat.zero_le _⟩
theorem Dn (fr fin:Nat)(f:List bF)(s:DS):(jF fr fin f s).1.loose.length≤s.loose.length+f.length:=by
 have a1:=qj fr (f.drop fin) fin (decide (0 < s.loose.length)) s;rw[List.length_drop]at a1;have a2:=xF (gp fr (f.drop fin) fin (decide (0 < s.loose.length)) s).1;rw[jF,n9];split;split
 show (oL _).loose.length≤_;omega
 show (gp _ _ _ _ _).1.loose.length≤_;omega
 show (gp _ _ _ _ _).1.loose.length≤_;omega
theorem Bi (n:Nat)(t:Int)(f:List bF)(s:DS):(lC n t f s).1.loose.length≤s.loose.length+f.length:=by
 have h:=Dn (aB n t) (eJ t f f.length 0 0).2 f s;rw[lC];split
 show s.loose.length≤_;omega
 split;exact h;exact h
theorem sY (s:DS):(aR s).1.loose.length≤s.loose.length+1000:=by
 obtain ⟨h1,h2⟩:=zl s;rw[aR];split
 rename_i h0
 have hn:=(h2 h0).2.1;obtain ⟨g1,g2⟩:=ob (aB (cw s).2.2.n.toNat (cw s).2.2.t) (cw s).2.2.n.toNat 0 (cw s).1;rw[mu];split;have:=Bi (cw s).2.2.n.toNat (cw s).2.2.t (cq (aB (cw s).2.2.n.toNat (cw s).2.2.t) (cw s).2.2.n.toNat 0 (cw s).1).2.2 (cq (aB (cw s).2.2.n.toNat (cw s).2.2.t) (cw s).2.2.n.toNat 0 (cw s).1).1;rw[g1,h1]at this;omega
 show (cq _ _ _ _).1.loose.length≤_
 rw[g1,h1];omega
 show (cw s).1.loose.length≤_
 rw[h1];omega
instance P2:cX PT:=⟨4,YQ,fun _=>rfl,fun x u hu=>by simp only[List.mem_cons,List.not_mem_nil,or_false]at hu;rcases hu with rfl | rfl | rfl | rfl <;> rfl⟩
instance YY:dW PT:={ P2 with
 dflt:=⟨0,0,0,none,0,[]⟩
 ny:=fun w x=>x.keep.length≤x.c∧x.c≤maxLen∧av x.p x.keep w
 mono:=fun _w _w' _x h hx=>⟨hx.1,hx.2.1,hx.2.2.mono h⟩ }
theorem Bj (t:Int):∀ (said:List (List UInt8)) (j:Nat),(dg t said j).length=(said.map fun b=>bN b.length).sum
 | [],_=>rfl
 | b::l,j=>by rw[dg,List.length_append,bB,Bj t l,List.map_cons,List.sum_cons]
theorem q_ (t:Int)(said:List (List UInt8)):bY t said=(said.map fun b=>bN b.length).sum:=Bj t said 0
theorem Dp {b m:Nat}{p:Option Addr}{c:Nat}{s:DS}{l:List Bool} : ∀ k,(ay b m none 0 (bp l s)).aj k→(ay b m p c s).aj k:=fun k hk=>by
 rcases hk with h | h | h
 exact .inl h;exact .inr (.inl h);obtain ⟨ad,h,-⟩:=h;cases h
theorem St.E4 {w0:World}{M0:Nat→Prop}{ds:List Deferred}{a:Act}{w:World}{l:List Value}{bs bs':List Wk.Item}{fs:List (World→Prop)}(S:St w0 M0 ds a w l bs fs)(ys:List jK)[hd:pH bs (dr ys) bs']:St w0 M0 ds a w l bs' (n8 ys::fs):=by
 have S1:=S.perm _ hd.perm;have hap:=List.pairwise_cons.1 S1.wd.apart;have hr:(dr ys).holds w:=S1.wd.held _ (by simp);have S2:St w0 M0 ds a w l bs' fs:=⟨S1.slots,S1.defers,S1.wd.sub (.cons _ (.refl _)) (.refl _)⟩;exact S2.add fun w' ha y hy=>zf (fun ad hp=>ha.iB ((hr y hy).1 ad hp) (fun⟨it,hi,hk⟩=>hap.1 it hi ad.block ⟨y,hy,ad,hp,rfl⟩ hk)) (hr y hy).2
structure LV where
 s:DS
 n:Nat
 au:Int
 said:List (List UInt8)
 fin:Nat
 broken:Bool
def LG.v (L:LG):LV:=⟨L.s,L.x.n,L.x.au,xP L.x.said,L.x.fin,L.x.broken⟩
def LV.x (V:LV):WS:=⟨V.n,V.au,[],V.fin,V.broken⟩
structure LV.Wf (V:LV)(k:Nat):Prop where
 n:V.n≤1000
 fin:V.fin≤V.n
 some_:0 < V.said.length
 rO:V.said.length≤V.fin
 short:∀ b∈V.said,b.length≤40000
 au:0≤V.au∧V.au≤4294967295
 loose:V.s.loose.length≤k
theorem LV.Wf.more {V:LV}{k k':Nat}(h:V.Wf k)(hk:k≤k'):V.Wf k':=⟨h.n,h.fin,h.some_,h.rO,h.short,h.au,Nat.le_trans h.loose hk⟩
def m6 (V:LV)(bs:List UInt8):LV × Int:=
 if iO V.x bs≠0 then (V,iO V.x bs) else
 if (bg V.s ((aB V.n V.au+V.fin:Nat):Int) (aG V.au (V.said.length:Int) bs)).2=0 then
  ({ V with s:=(bg V.s ((aB V.n V.au+V.fin:Nat):Int) (aG V.au (V.said.length:Int) bs)).1,said:=V.said++[bs],fin:=V.fin+bN bs.length },0)
 else ({ V with s:=(bg V.s ((aB V.n V.au+V.fin:Nat):Int) (aG V.au (V.said.length:Int) bs)).1,broken:=true },(bg V.s ((aB V.n V.au+V.fin:Nat):Int) (aG V.au (V.said.length:Int) bs)).2)
def jG (V:LV)(bs:List UInt8):LV × Int:=
 if gY V.x bs≠0 then (V,gY V.x bs) else
 if (eT V.n (mL V.au) bs V.s).2=0 then ({ V with s:=(eT V.n (mL V.au) bs V.s).1,au:=mL V.au,said:=[bs],fin:=bN bs.length },0)
 else ({ V with s:=(eT V.n (mL V.au) bs V.s).1,broken:=true },(eT V.n (mL V.au) bs V.s).2)
theorem room_le {x:WS}{bs:List UInt8}(h:iO x bs=0):bs.length≤40000∧(x.fin≤x.n→x.fin+bN bs.length≤x.n):=by
 unfold iO at h
 by_cases h1:jD x bs=0
 rw[if_pos h1]at h;refine ⟨(oQ h1).1,fun _=>?_⟩
 by_cases h2:x.n - x.fin < bN bs.length
 rw[if_pos h2]at h;cases h;omega;rw[if_neg h1]at h;exact absurd h h1
theorem Jl {x:WS}{bs:List UInt8}(h:gY x bs=0):bs.length≤40000∧bN bs.length≤x.n:=by
 unfold gY at h
 by_cases h1:jD x bs=0
 rw[if_pos h1]at h;refine ⟨(oQ h1).1,?_⟩
 by_cases h2:x.n < bN bs.length∨mL x.au=0
 rw[if_pos h2]at h;cases h;omega;rw[if_neg h1]at h;exact absurd h h1
theorem tX {V:LV}{k:Nat}(h:V.Wf k)(bs:List UInt8):(m6 V bs).1.Wf (k+840):=by
 unfold m6
 by_cases h1:iO V.x bs≠0
 rw[if_pos h1];exact h.more (by omega);rw[if_neg h1];have h1:iO V.x bs=0:=Decidable.not_not.1 h1;obtain ⟨hb,hr⟩:=room_le h1;have hr:V.fin+bN bs.length≤V.n:=hr h.fin;have hlo:=iu V.s ((aB V.n V.au+V.fin:Nat):Int) (aG V.au (V.said.length:Int) bs);have P3:=tU _ hb;have hsp:=fW bs.length;have hl:=h.loose;have hf:=h.rO;rw[bB]at hlo
 by_cases h2:(bg V.s ((aB V.n V.au+V.fin:Nat):Int) (aG V.au (V.said.length:Int) bs)).2=0
 rw[if_pos h2];refine ⟨h.n,hr,?_,?_,?_,h.au,?_⟩;simp only[List.length_append,List.length_singleton];omega;simp only[List.length_append,List.length_singleton];omega;intro b hb';rcases List.mem_append.1 hb' with h3 | h3
 exact h.short b h3;obtain rfl:=List.mem_singleton.1 h3;exact hb
 show (bg _ _ _).1.loose.length≤_;omega
 rw[if_neg h2];exact ⟨h.n,h.fin,h.some_,h.rO,h.short,h.au,by show (bg _ _ _).1.loose.length≤_;omega⟩
theorem zv {V:LV}{k:Nat}(h:V.Wf k)(bs:List UInt8):(jG V bs).1.Wf (k+840):=by
 unfold jG
 by_cases h1:gY V.x bs≠0
 rw[if_pos h1];exact h.more (by omega);rw[if_neg h1];have h1:gY V.x bs=0:=Decidable.not_not.1 h1;obtain ⟨hb,hr⟩:=Jl h1;have hr:bN bs.length≤V.n:=hr;have hlo:=vC V.n (mL V.au) bs hb V.s;have hsp:=fW bs.length;have hl:=h.loose
 by_cases h2:(eT V.n (mL V.au) bs V.s).2=0
 rw[if_pos h2];refine ⟨h.n,hr,Nat.zero_lt_one,hsp,?_,?_,?_⟩;intro b hb';obtain rfl:=List.mem_singleton.1 hb';exact hb;have:=xM V.au;exact this
 show (eT _ _ _ _).1.loose.length≤_;omega
 rw[if_neg h2];exact ⟨h.n,h.fin,h.some_,h.rO,h.short,h.au,by show (eT _ _ _ _).1.loose.length≤_;omega⟩
theorem vD (L:LG):L.v.said.length=L.x.said.length:=List.length_map _
theorem vE (b g:Nat)(L:LG)(k:Nat)(y:jK)(h:L.v.Wf k)(hk:k≤980000)(wR:y.bs.length≤10000000)(w0:World)(hd:(ct b g L).holds w0)(f0:ag (ct b g L).aj w0 (av y.p y.bs)) :
  aT prog 20 [.pointer (some ⟨g,0,none⟩),.slice y.p y.bs.length y.c] w0 (ct b g L).aj fun v w'=>∃ L',v=.int .i64 (m6 L.v y.bs).2∧(ct b g L').holds w'∧(∀ k,(ct b g L').aj k→(ct b g L).aj k∨w0.heap.size≤k)∧L'.m=L.m∧L'.v=(m6 L.v y.bs).1:=by
 have hvl:=vD L;have hcap:=Dm hd;obtain ⟨m,p,c,s,q,e,x⟩:=L;have hn:x.n≤1000:=h.n;have I6:x.fin≤x.n:=h.fin;have hs0:=h.some_;have Tz:(LG.v ⟨m,p,c,s,q,e,x⟩).said.length≤x.fin:=h.rO;have ht:0≤x.au∧x.au≤4294967295:=h.au;have hl:s.loose.length≤k:=h.loose;have hvl:(LG.v ⟨m,p,c,s,q,e,x⟩).said.length=x.said.length:=hvl;rw[hvl]at hs0 Tz;have hcap:x.said.length≤e:=hcap;refine (Jb g b m p c s q e x y w0 hn I6 ⟨by omega,hcap⟩ hs0 ht wR (by omega) hd f0).mono fun v w'=>?_
 have YZ:iO (LG.v ⟨m,p,c,s,q,e,x⟩).x y.bs=iO x y.bs:=rfl;unfold m6;rw[YZ,hvl];rintro (⟨ha,rfl,hb⟩ | ⟨ha,rfl,p',c',q',e',y',hy',he',hh,hf⟩);rw[if_pos ha];exact ⟨⟨m,p,c,s,q,e,x⟩,rfl,hb,fun k hk=>.inl hk,rfl,rfl⟩;rw[if_neg (fun h=>h ha)];have hR:bg (LG.v ⟨m,p,c,s,q,e,x⟩).s ((aB (LG.v ⟨m,p,c,s,q,e,x⟩).n (LG.v ⟨m,p,c,s,q,e,x⟩).au+(LG.v ⟨m,p,c,s,q,e,x⟩).fin:Nat):Int) (aG (LG.v ⟨m,p,c,s,q,e,x⟩).au (x.said.length:Int) y.bs)=bg s ((aB x.n x.au+x.fin:Nat):Int) (aG x.au (x.said.length:Int) y.bs):=rfl;rw[hR];obtain ⟨R,hR⟩:∃ R,R=bg s ((aB x.n x.au+x.fin:Nat):Int) (aG x.au (x.said.length:Int) y.bs):=⟨_,rfl⟩;rw[←hR]at hh hf⊢;refine ⟨⟨m,p',c',R.1,q',e',zn x y' R.2⟩,?_,hh,hf,rfl,?_⟩
 by_cases h2:R.2=0
 rw[if_pos h2,h2];rw[if_neg h2]
 by_cases h2:R.2=0
 rw[if_pos h2]
 show LG.v _=_
 unfold LG.v zn;rw[if_pos h2];simp only[xP,List.map_append,List.map_cons,List.map_nil,hy'];rw[if_neg h2]
 show LG.v _=_
 unfold LG.v zn;rw[if_neg h2]
theorem Bk (b g:Nat)(L:LG)(k:Nat)(y:jK)(h:L.v.Wf k)(hk:k≤980000)(wR:y.bs.length≤10000000)(w0:World)(hd:(ct b g L).holds w0)(f0:ag (ct b g L).aj w0 (av y.p y.bs)) :
  aT prog 19 [.pointer (some ⟨g,0,none⟩),.slice y.p y.bs.length y.c] w0 (ct b g L).aj fun v w'=>∃ L',v=.int .i64 (jG L.v y.bs).2∧(ct b g L').holds w'∧(∀ k,(ct b g L').aj k→(ct b g L).aj k∨w0.heap.size≤k)∧L'.m=L.m∧L'.v=(jG L.v y.bs).1:=by
 obtain ⟨m,p,c,s,q,e,x⟩:=L;have hn:x.n≤1000:=h.n;have ht:0≤x.au∧x.au≤4294967295:=h.au;have hl:s.loose.length≤k:=h.loose;refine (TQ g b m p c s q e x y w0 hn ht wR (by omega) hd f0).mono fun v w'=>?_
 have YZ:gY (LG.v ⟨m,p,c,s,q,e,x⟩).x y.bs=gY x y.bs:=rfl;unfold jG;rw[YZ];rintro (⟨ha,rfl,hb⟩ | ⟨ha,rfl,p',c',q',e',y',hy',-,-,hh,hf⟩);rw[if_pos ha];exact ⟨⟨m,p,c,s,q,e,x⟩,rfl,hb,fun k hk=>.inl hk,rfl,rfl⟩;rw[if_neg (fun h=>h ha)];have hR:eT (LG.v ⟨m,p,c,s,q,e,x⟩).n (mL (LG.v ⟨m,p,c,s,q,e,x⟩).au) y.bs (LG.v ⟨m,p,c,s,q,e,x⟩).s=eT x.n (mL x.au) y.bs s:=rfl;rw[hR];obtain ⟨R,hR⟩:∃ R,R=eT x.n (mL x.au) y.bs s:=⟨_,rfl⟩;rw[←hR]at hh hf⊢;refine ⟨⟨m,p',c',R.1,q',e',zq x y' R.2⟩,?_,hh,hf,rfl,?_⟩
 by_cases h2:R.2=0
 rw[if_pos h2,h2];rw[if_neg h2]
 by_cases h2:R.2=0
 rw[if_pos h2]
 show LG.v _=_
 unfold LG.v zq;rw[if_pos h2];simp only[xP,List.map_cons,List.map_nil,hy'];rw[if_neg h2]
 show LG.v _=_
 unfold LG.v zq;rw[if_neg h2]
def iz (s:DS):LV:=⟨(aR s).1,(aR s).2.2.n,(aR s).2.2.au,(aR s).2.2.said,(aR s).2.2.fin,false⟩
theorem Bl (t:Int)(field:List bF):∀ (f at_ j:Nat),at_≤field.length→(eJ t field f at_ j).1.length+at_≤(eJ t field f at_ j).2∧(eJ t field f at_ j).2≤field.length∧∀ b∈(eJ t field f at_ j).1,b.length≤40000
 | 0,at_,j,h=>⟨by simp[eJ],h,fun b hb=>by simp[eJ]at hb⟩
 | f+1,at_,j,h=>by
  rw[eJ];cases hs:fh t field at_ (j:Int) with
  | none=>exact ⟨by simp,h,fun b hb=>by simp at hb⟩
  | some bs=>
   have h1:=xL hs;have h2:=mq hs;have h3:=fW bs.length;obtain ⟨r1,r2,r3⟩:=Bl t field f (at_+bN bs.length) (j+1) h1;refine ⟨?_,r2,fun b hb=>?_⟩;simp only[jb];omega;rcases List.mem_cons.1 hb with rfl | hb
   exact h2.1;exact r3 b hb
theorem oT {s:DS}(h:(aR s).2.1=0):(iz s).Wf (s.loose.length+1000):=by
 have hlo:=sY s;have PX:=zl s
 by_cases h1:(cw s).2.1=0
 obtain ⟨hz,hn,ht⟩:=PX.2 h1;have e1:aR s=mu (cw s).2.2.n.toNat (cw s).2.2.t (cw s).1:=by rw[aR,if_pos h1]
 obtain ⟨n,hn'⟩:∃ n,n=(cw s).2.2.n.toNat:=⟨_,rfl⟩;have wG:n≤1000:=by omega
 rw[←hn']at e1
 by_cases h2:(cq (aB n (cw s).2.2.t) n 0 (cw s).1).2.1=0
 have e2:=e1;rw[mu,if_pos h2]at e2;have hfl:=(ob (aB n (cw s).2.2.t) n 0 (cw s).1).2;obtain ⟨F,hF⟩:∃ F,F=cq (aB n (cw s).2.2.t) n 0 (cw s).1:=⟨_,rfl⟩;rw[←hF]at e2 hfl;have hrd:=Bl (cw s).2.2.t F.2.2 F.2.2.length 0 0 (Nat.zero_le _);rw[lC]at e2
 by_cases h3:(eJ (cw s).2.2.t F.2.2 F.2.2.length 0 0).1=[]
 rw[if_pos h3]at e2;rw[e2]at h;cases h;rw[if_neg h3]at e2
 by_cases h4:(jF (aB n (cw s).2.2.t) (eJ (cw s).2.2.t F.2.2 F.2.2.length 0 0).2 F.2.2 F.1).2=0
 rw[if_pos h4]at e2;have h5:=List.length_pos_iff.2 h3;unfold iz;refine ⟨?_,?_,?_,?_,?_,?_,hlo⟩ <;> rw[e2]
 exact wG
 show (eJ _ _ _ _ _).2≤n;omega
 exact h5
 show (eJ _ _ _ _ _).1.length≤(eJ _ _ _ _ _).2;omega
 exact hrd.2.2;exact ht;rw[if_neg h4]at e2;rw[e2]at h;exact absurd h h4;rw[mu,if_neg h2]at e1;rw[e1]at h;exact absurd h h2;rw[aR,if_neg h1]at h;exact absurd h h1
theorem rf (b m:Nat)(p:Option Addr)(c:Nat)(s:DS)(hl:s.loose.length≤980000)(w0:World)(hd:(ay b m p c s).holds w0) :
  aT prog 54 [.pointer (some ⟨b,0,none⟩)] w0 (ay b m p c s).aj fun v w'=>
   ((aR s).2.1≠0∧v=.tuple ⟨[.pointer none,.int .i64 (aR s).2.1]⟩∧∃ p' c',(ay b m p' c' (aR s).1).holds w'∧∀ k,(ay b m p' c' (aR s).1).aj k→(ay b m p c s).aj k∨w0.heap.size≤k)∨
   ((aR s).2.1=0∧∃ g L,v=.tuple ⟨[.pointer (some ⟨g,0,none⟩),.int .i64 0]⟩∧L.m=m∧L.v=iz s∧(ct b g L).holds w'∧∀ k,(ct b g L).aj k→(ay b m p c s).aj k∨w0.heap.size≤k):=by
 refine (PW b m p c s w0 hl hd).mono fun v w'=>?_
 rintro (h | ⟨h0,g,p',c',q,e,x,hv,⟨x1,x2,x3,x4,x5⟩,hh,hf⟩);exact .inl h;refine .inr ⟨h0,g,⟨m,p',c',(aR s).1,q,e,x⟩,hv,rfl,?_,hh,hf⟩;unfold LG.v iz;simp only[x1,x2,x4,x5,xP,x3]
def r_ (n:Nat)(s:DS):LV:=⟨(gK n s).1,n,0,[[]],1,false⟩
theorem Bm (b m n:Nat)(p:Option Addr)(c:Nat)(s:DS)(hm:jY s n=true)(hl:s.loose.length≤980000)(w0:World)(hd:(ay b m p c s).holds w0) :
  aT prog 18 [.pointer (some ⟨b,0,none⟩),.int .i64 (n:Int)] w0 (ay b m p c s).aj fun v w'=>
   ((gK n s).2≠0∧v=.tuple ⟨[.pointer none,.int .i64 (gK n s).2]⟩∧∃ p' c',(ay b m p' c' (gK n s).1).holds w'∧∀ k,(ay b m p' c' (gK n s).1).aj k→(ay b m p c s).aj k∨w0.heap.size≤k)∨
   ((gK n s).2=0∧∃ g L,v=.tuple ⟨[.pointer (some ⟨g,0,none⟩),.int .i64 0]⟩∧L.m=m∧L.v=r_ n s∧(ct b g L).holds w'∧∀ k,(ct b g L).aj k→(ay b m p c s).aj k∨w0.heap.size≤k):=by
 refine (IY b m n p c s w0 hm hl hd).mono fun v w'=>?_
 rintro (h | ⟨h0,g,p',c',q,e,hv,hh,hf⟩);exact .inl h;exact .inr ⟨h0,g,⟨m,p',c',(gK n s).1,q,e,zg n⟩,hv,rfl,rfl,hh,hf⟩
theorem P4 (b g:Nat)(L:LG)(k:Nat)(h:L.v.Wf k)(w0:World)(hd:(ct b g L).holds w0):aT prog 100 [.pointer (some ⟨g,0,none⟩)] w0 (fun _=>False) fun v _=>v=.int .i64 ((L.v.n:Int) - L.v.fin):=by
 have h1:=h.n;have h2:=h.fin;have h3:=h.rO;have h4:=h.some_;rw[vD]at h3 h4;exact Mp g b L.q L.e L.x ⟨by omega,h4⟩ (show L.v.fin≤_ by omega) h1 w0 (az.aO hd.2.1.1 (fun h=>h))
theorem vF (b g:Nat)(L:LG)(w0:World)(hd:(ct b g L).holds w0):aT prog 99 [.pointer (some ⟨g,0,none⟩)] w0 (fun _=>False) fun v _=>v=.bool L.v.broken:=
 xG g b L.q L.e L.x w0 (az.aO hd.2.1.1 (fun h=>h))
theorem Jm (b g:Nat)(L:LG)(k:Nat)(h:L.v.Wf k)(w0:World)(hd:(ct b g L).holds w0) :
  aT prog 86 [.pointer (some ⟨g,0,none⟩)] w0 (fun _=>False) fun v w'=>∃ bs p' c',L.v.said[0]? = some bs∧v=.slice p' bs.length c'∧w'.ownsRow 0 5 1 (.slice p' bs.length c') bs.length (aa bs)∧∀ ad,p'=some ad→w0.heap.size≤ad.block:=by
 have h4:=h.some_;rw[vD]at h4;have hg:=bu h4;have e0:L.v.said[0]? = some (aq L.x.said 0).bs:=by
  show (xP L.x.said)[0]? = _
  rw[xP,List.getElem?_map,hg];rfl
 have hs:=h.short _ (List.mem_of_getElem? e0);have Dq:=(Gk hd.2.1.2.1.2.1).imp fun _ h=>h (aq L.x.said 0) (List.mem_of_getElem? hg)
 refine (PR g b L.q L.e L.x (aq L.x.said 0) h4 rfl (by omega) w0 (az.aO hd.2.1.1 (fun h=>h)) (gJ hd.2.1.2.1.1 (fun _ _ _ _=>trivial) (fun _ _ h=>h)) Dq).mono fun v w'=>?_
 rintro ⟨p',c',h1,h2,h3⟩;exact ⟨_,p',c',e0,h1,h2,h3⟩
def Im.ok (c:Im):Prop:=c.on=true→0≤c.left∧c.left≤9223372036854775807
def Oo (f a:Im):Im:=if f.on then (if a.on then (if f.left≤a.left then f else a) else f) else a
structure Oq (r r':DS):Prop where
 loose:r.loose=r'.loose
 cg:r.cg=r'.cg
 size:r.size=r'.size
structure Sim (s s':DS):Prop where
 same:Oq s s'
 on:s.out=false
 up:Up s'
 bC:s'.bC=Oo s.bD s.bC
 okf:s.bD.ok
 oka:s.bC.ok
theorem xQ (s:DS)(k:Int)(b:Bool):Oq (fe s k b) s:=by
 unfold fe;split;exact ⟨rfl,rfl,rfl⟩;split;exact ⟨rfl,rfl,rfl⟩;split;exact ⟨rfl,rfl,rfl⟩;split;split <;> exact ⟨rfl,rfl,rfl⟩
 exact ⟨rfl,rfl,rfl⟩
def Ot (s:DS)(n:Nat)(t:Int)(said:List (List UInt8)):Prop:=∃ s',Sim s s'∧Live s' n t said
theorem Live.Jn {s:DS}{n:Nat}{t:Int}{said:List (List UInt8)}(h:Live s n t said)(ha:s.bC.ok):Ot s n t said:=by
 obtain ⟨tail,hL,_⟩:=id h;refine ⟨s,⟨⟨rfl,rfl,rfl⟩,hL.up.on,hL.up,?_,?_,ha⟩,h⟩;rw[Oo,if_neg (by rw[hL.up.fit];exact Bool.false_ne_true)];intro h1;rw[hL.up.fit]at h1;cases h1
structure Bn (V:LV)(n:Nat)(t:Int)(said:List (List UInt8)):Prop where
 num:V.n=n
 au:V.au=t
 Jk:V.said=said
 fin:V.fin=bY t said
 whole:V.broken=false
 live:Ot V.s n t said
theorem Bn.wf {V:LV}{n:Nat}{t:Int}{said:List (List UInt8)}(h:Bn V n t said):V.Wf 0:=by
 obtain ⟨s',hs,tail,hL,-⟩:=h.live;have hlen:=hL.len;have PZ:=hL.rO;have Gd:=n_ t said 0;refine ⟨by rw[h.num];exact hL.hn.2,by rw[h.num,h.fin];omega,by rw[h.Jk];exact PZ.2,by rw[h.Jk,h.fin];exact Gd,by rw[h.Jk];exact hL.short,by rw[h.au];exact hL.ht,?_⟩;rw[hs.same.loose,hL.loose];exact Nat.le_refl _
structure vG (V:LV)(n:Nat)(t:Int)(said:List (List UInt8)):Prop where
 ok:Bn V n t said
 live:Live V.s n t said
 off:V.s.bC.on=false
theorem Dr (n:Nat)(hn:4≤n∧n≤1000):vG (r_ n (gZ ((2*n+2:Nat):Int))) n 0 [[]]:=by
 obtain ⟨h1,h2,h3⟩:=lD n hn;exact ⟨⟨rfl,rfl,rfl,rfl,rfl,h2.Jn (fun h=>by rw[h3]at h;cases h)⟩,h2,h3⟩
theorem MB {V:LV}{n:Nat}{t:Int}{said:List (List UInt8)}(h:Bn V n t said)(bs:List UInt8)(hb:bs.length≤40000):iO V.x bs=if n < bY t said+bN bs.length then 6 else 0:=by
 obtain ⟨q1,q2,q3,q4,q5,q6⟩:=h;obtain ⟨s,n',au,ja,fin,broken⟩:=V;simp only at q1 q2 q3 q4 q5 q6;subst q1 q2 q3 q4 q5;have e1:jD (LV.x ⟨s,n',au,ja,bY au ja,false⟩) bs=0:=by
  rw[jD,if_neg (by omega)];rfl
 obtain ⟨s',hs,tail,hL,-⟩:=q6;have hlen:=hL.len;have Gd:=n_ au ja 0;rw[iO,if_pos e1]
 show (if n' - bY au ja < bN bs.length then (6:Int) else 0)=_
 by_cases h:n' < bY au ja+bN bs.length
 rw[if_pos h,if_pos (by omega)];rw[if_neg h,if_neg (by have:bY au ja≤n':=(by omega);omega)]
theorem MC {V:LV}{n:Nat}{t:Int}{said:List (List UInt8)}(h:vG V n t said)(bs:List UInt8)(hb:bs.length≤40000)(hr:bY t said+bN bs.length≤n) :
  (m6 V bs).2=0∧vG (m6 V bs).1 n t (said++[bs]):=by
 have hroom:=MB h.ok bs hb;rw[if_neg (by omega)]at hroom;obtain ⟨⟨q1,q2,q3,q4,q5,q6⟩,hl,ho⟩:=h;obtain ⟨s,n',au,ja,fin,broken⟩:=V;simp only at q1 q2 q3 q4 q5 q6 hl ho hroom;subst q1 q2 q3 q4 q5;obtain ⟨a1,a2,a3⟩:=(Bf hl bs hb hr).resolve_right (fun h=>by rw[ho]at h;cases h.1);have he:bY au (ja++[bs])=bY au ja+bN bs.length:=by
  rw[q_,q_,List.map_append,List.sum_append];simp
 unfold m6;rw[if_neg (fun h=>h hroom),if_pos a1];exact ⟨rfl,⟨⟨rfl,rfl,rfl,he.symm,rfl,a2.Jn (fun h=>by rw[a3 ho]at h;cases h)⟩,a2,a3 ho⟩⟩
structure VT where
 L:LG
 p:Option Addr
 c:Nat
 xs:List C9
end Go.Proofs.YtdakncgafdnjfaaGreat
namespace Go.Wk
open Go Go.Deep Go.ChangeShapes Go.WideShapes Go.ChangeAt Go.RowKit
class wY (P:Program)(T:TypeId)(α:Type)[dW α](Z:outParam (α→Prop)):Prop where
 of:∀ {H:Type} (enc:TypeId × Value→H) (w:World) (base:Nat) (spare:Nat→Bool) (held:Bool) (fuel:Nat) (cs:List Value) (x:DataW H × List MemPlace),DataW.trod enc P w base spare held fuel T cs=some x→∃ a:α,cs=cX.cells a∧dW.ny w a∧((∀ n∈x.1.weights P T,n≤reachBytes)→Z a)
 size:P.cellsOf T=cX.sz α
theorem zw {P:Program}{T:TypeId}{α:Type}[dW α](h:uJ P T α):wY P T α (fun _=>True):=⟨fun enc w base spare held fuel cs x hx=>by
 obtain ⟨a,h1,h2⟩:=h.of enc w base spare held fuel cs x hx;exact ⟨a,h1,h2,fun _=>trivial⟩,h.size⟩
theorem nD {H:Type}{P:Program}{e:TypeId} : ∀ {ds:List (DataW H)} {d:DataW H},d∈ds→∀ n∈d.weights P e,n∈DataW.weightsAll P e ds
 | d0::ds,d,hd,n,hn=>by
  simp only[DataW.weightsAll,List.mem_append];rcases List.mem_cons.1 hd with rfl | hd
  exact .inl hn;exact .inr (nD hd n hn)
abbrev ZSl {α:Type}[dW α](P:Program)(T:TypeId)(Z:α→Prop):Sl α→Prop:=fun s=>s.xs.length*P.bytesOf T≤reachBytes∧∀ x∈s.xs,Z x
theorem MD {P:Program}{T L:TypeId}{α:Type}{Z:α→Prop}[dW α][hT:wY P T α Z](hu:P.underlying L=some (.slice T))(hs:P.cellsOf L=1):wY P L (Sl α) (ZSl P T Z):=⟨fun enc w base spare held fuel cs x h=>by
 rcases DataW.trod_slice hu h with ⟨e4,e5⟩ | ⟨ad,len,cap,elems,rest,n',rfl,e4,e5,_,hlc,nM,hel,hem,_,_⟩
 exact ⟨⟨none,0,[]⟩,e4,⟨Nat.le_refl _,Nat.zero_le _,jd⟩,fun _=>⟨by simp,fun _ h=>by cases h⟩⟩;subst e4;have:Inhabited α:=⟨dW.dflt⟩;obtain ⟨g,hg⟩:=choose_lt (α:=α) (p:=fun i t=>(w.cells? base (ad.add (i*cX.sz α)) (cX.sz α)=some (cX.cells t)∧dW.ny w t)∧((∀ n∈x.1.weights P L,n≤reachBytes)→Z t)) (n:=len) (fun i hi=>by
  have h1:=hem i hi;rw[hT.size,List.getElem?_eq_getElem (by omega)]at h1;obtain ⟨cs',h2,h3⟩:=Option.bind_eq_some_iff.1 h1;obtain ⟨t,rfl,ht,hz⟩:=hT.of _ _ _ _ _ _ _ _ h3;refine ⟨t,⟨h2,ht⟩,fun hw=>hz fun n hn=>hw n ?_⟩;rw[e5];simp only[DataW.weights,hu,List.mem_cons,List.mem_append];exact .inr (.inl (nD (List.mem_map_of_mem (List.getElem_mem (by omega))) n hn)))
 refine ⟨⟨some ad,cap,(List.range len).map g⟩,by simp[cX.cells,Sl.v],⟨by simpa using hlc,nM,⟨fun h=>(by cases h),fun Ee hp j u hj=>?_⟩,fun t ht=>?_⟩,fun hw=>⟨?_,fun t ht=>?_⟩⟩;obtain rfl:ad=Ee:=by simpa using hp
 have hjl:j < len*cX.sz α:=by
  have:=(List.getElem?_eq_some_iff.1 hj).1;rw[aU]at this;simpa using this
 have hz:0 < cX.sz α:=Nat.pos_of_ne_zero fun h0=>by rw[h0]at hjl;omega
 have hi:j / cX.sz α < len:=(Nat.div_lt_iff_lt_mul hz).2 hjl;have hm:j % cX.sz α < cX.sz α:=Nat.mod_lt _ hz;have SO:j / cX.sz α*cX.sz α+j % cX.sz α=j:=Nat.div_add_mod' j _;obtain ⟨⟨hc,-⟩,-⟩:=hg _ hi;obtain ⟨_,_,h5⟩:=World.cells?_some hc;have h6:=h5 _ hm;have h7:=eV ((List.range len).map g) (j / cX.sz α) (g (j / cX.sz α)) (by simp[hi]) _ hm;rw[SO,hj]at h7;rw[Go.Deep.add_add,SO]at h6;rw[h6,←h7];obtain ⟨i,hi,rfl⟩:=List.mem_map.1 ht;exact (hg i (List.mem_range.1 hi)).1.2;have h1:=hw ((elems.length+rest.length)*P.bytesOf T) (by rw[e5];simp[DataW.weights,hu]);rw[List.length_map,List.length_range];refine Nat.le_trans (Nat.mul_le_mul_right _ ?_) h1;omega;obtain ⟨i,hi,rfl⟩:=List.mem_map.1 ht;exact (hg i (List.mem_range.1 hi)).2 hw,hs⟩
theorem Dt {H:Type}{enc:TypeId × Value→H}{P:Program}{w:World}{base:Nat}{spare:Nat→Bool}{held:Bool}{T:TypeId}{fs:Array Field}(hu:P.underlying T=some (.struct fs)){fuel:Nat}{cs:List Value}{x:DataW H × List MemPlace}(h:DataW.trod enc P w base spare held fuel T cs=some x) :
  cs.length=P.cellsOf T∧∀ (i t o:Nat),(fs.toList.map (fun f=>(f.type,f.offset)))[i]? = some (t,o)→∃ n y,DataW.trod enc P w base spare held n t ((cs.drop o).take (P.cellsOf t))=some y∧∀ k∈y.1.weights P t,k∈x.1.weights P T:=by
 obtain ⟨xs,n,rfl,rfl,hlen,Ag,hx⟩:=DataW.trod_struct hu h;refine ⟨hlen,fun i t o hi=>?_⟩;rw[List.getElem?_map]at hi;obtain ⟨f,kr,iF⟩:=Option.map_eq_some_iff.1 hi;simp only[Prod.mk.injEq]at iF;obtain ⟨rfl,rfl⟩:=iF;have hlt:i < fs.size:=by simpa using (List.getElem?_eq_some_iff.1 kr).1
 have h1:=hx i f (by simpa using kr);rw[List.getElem?_eq_getElem (by omega)]at h1;refine ⟨n,_,h1,fun k hk=>?_⟩;simp only[DataW.weights,hu];refine DataW.weights_mem_each (j:=i) (t:=f.type) (d:=(xs[i]'(by omega)).1) ?_ ?_ k hk;rw[List.getElem?_map,kr];rfl;rw[List.getElem?_map,List.getElem?_eq_getElem (by omega)];rfl
theorem oU {H:Type}{enc:TypeId × Value→H}{P:Program}{w:World}{base:Nat}{spare:Nat→Bool}{held:Bool}{T:TypeId}{α:Type}{Z:α→Prop}[dW α][hT:wY P T α Z]{n:Nat}{cs:List Value}{y:DataW H × List MemPlace}{o s:Nat}(h:DataW.trod enc P w base spare held n T ((cs.drop o).take s)=some y)(hs:s=P.cellsOf T) :
  ∃ a:α,(cs.drop o).take (cX.sz α)=cX.cells a∧dW.ny w a∧((∀ n∈y.1.weights P T,n≤reachBytes)→Z a):=by
 subst hs;obtain ⟨a,h1,h2,h3⟩:=hT.of _ _ _ _ _ _ _ _ h;exact ⟨a,by rw[←hT.size];exact h1,h2,h3⟩
end Go.Wk