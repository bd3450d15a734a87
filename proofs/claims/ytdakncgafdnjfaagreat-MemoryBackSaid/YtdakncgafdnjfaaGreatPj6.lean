/- 6: a part of this claim's texts, joined: WalN WalO WalP W10 WalQ WalR PlainDisk PlainWalB PlainWalC PlainWalD WalLawE WalLawF WalLawG WalLawH WalLawI WalLawJ WalLawK WalLawL WalLawM WalLawN WalLawP. -/
import Derived.Test.YtdakncgafdnjfaaGreatPj5
namespace Go.Proofs.YtdakncgafdnjfaaGreat
open Go Go.Wk
set_option synthInstance.maxSize 100000
set_option synthInstance.maxHeartbeats 400000
set_option maxRecDepth 100000
instance (priority:=1190) opSliceArrG {P:Program} {t ty e:TypeId} {lc:Cx} {bs:List Wk.Item} {fs:List (World→Prop)} {x:Operand} {ol oh:Option Operand} {q:Option Addr} {k s o lo hi n sz by_:Nat} {z:Value} [Ev lc x (.pointer (some (gAddr q k s o)))] [hl:EvB lc ol 0 lo] [hh:EvB lc oh n hi] [ht:Und P t (.array n e)] [TI P e z sz by_] [h2:LeC hi n] [h3:LeC lo hi] :
  OpQ P (.slice t x ol oh none) ty lc bs fs (.slice (some (if n=lo then gAddr q k s o else gAddr q k s (o+lo*sz))) (hi - lo) (n - lo)):=⟨fun ρ w hf _=>by
 have hb:(Instr.sliceBounds false n n (ol.map ρ) (oh.map ρ) none).run P w=.ok (lo,hi,n) w:=by
  rcases hh.eq with ⟨rfl,rfl⟩ | ⟨o2,kk2,rfl,h'⟩
  rcases hl.eq with ⟨rfl,rfl⟩ | ⟨o3,kk3,rfl,h''⟩
  simp[Instr.sliceBounds]
  have e3:=hf.ev (x:=o3) (v:=.int kk3 (lo:Int))
  simp[Instr.sliceBounds,e3,Go.Wk.run_sliceBound h3.le]
  have e2:=hf.ev (x:=o2) (v:=.int kk2 (hi:Int))
  rcases hl.eq with ⟨rfl,rfl⟩ | ⟨o3,kk3,rfl,h''⟩
  simp[Instr.sliceBounds,e2,Go.Wk.run_sliceBound h2.le]
  have e3:=hf.ev (x:=o3) (v:=.int kk3 (lo:Int))
  simp[Instr.sliceBounds,Sem.run_bind,e2,e3,Go.Wk.run_sliceBound h2.le,Go.Wk.run_sliceBound h3.le]
 have eX:ρ x=.pointer (some (gAddr q k s o)):=hf.ev
 simp[xop,execOp,Instr.sliceAt,eX,Sem.run_bind,run_und,Instr.sureAddr,hb,run_size,gAddr_add]⟩
theorem gl_elem {w:World} {q:Option Addr} {xs:List Blk} {k:Nat} (o:Nat) (hk:k < xs.length) (h:GlF q xs w):GlF (some (gAddr q k 64 o)) ((nthG xs k).l.drop o) w:=by
 refine ⟨⟨fun h=>(by cases h),fun ad hp j u hj=>?_⟩,fun _ _=>trivial⟩
 obtain rfl:=Option.some.inj hp
 rw[gAddr_add]
 have h1:=encL_dropG (nthG xs k).l o
 rw[show o*Enc.sz UInt8=o from Nat.mul_one o]at h1
 rw[h1,List.getElem?_drop]at hj
 exact gl_cell h hk hj
theorem gl_block {w:World} {p:Option Addr} {bs:List UInt8} (h:GlF p bs w) (hl:0 < bs.length) {ad:Addr} (hp:p=some ad):ad.block < w.heap.size:=by
 have h0:0 < (encL bs).length:=by rw[encL_len];exact Nat.mul_pos hl (by decide)
 have h1:=h.1.2 ad hp 0 _ (List.getElem?_eq_getElem h0)
 have h2:(ad.add 0).block=ad.block:=by unfold Addr.add;split <;> rfl
 unfold World.cell? at h1
 rw[h2]at h1
 cases hb:w.heap[ad.block]? with
 | none=>rw[hb]at h1;cases h1
 | some o=>exact (Array.getElem?_eq_some_iff.1 hb).1
theorem ent1_holds {w:World} {p:Option Addr} {c:Nat} {bs:List UInt8} (h1:∀ ad,p=some ad→ad.block < w.heap.size) (h2:GlF p bs w):(entI [⟨p,c,bs⟩]).holds w:=fun x hx=>by obtain rfl:=List.mem_singleton.1 hx;exact ⟨h1,h2⟩
theorem gather_len (xs:List Blk):(gather xs).length=48*xs.length:=by
 induction xs with
 | nil=>rfl
 | cons x xs ih=>
  have h1:=x.h
  have h2:gather (x::xs)=x.l.drop 16++gather xs:=rfl
  rw[h2,List.length_append,ih,List.length_drop,qqA];omega
theorem gather_snoc (xs:List Blk) (x:Blk):gather (xs++[x])=gather xs++x.l.drop 16:=by simp[gather]
theorem secF_bound (n:Int):0≤secF n∧secF n≤834:=by
 unfold secF
 split
 omega
 have:=secN_le n.toNat (by omega);omega
theorem secF_size {n:Int} (h:0≤n) (h2:(secF n).toNat≠0):n≤40000∧(secF n).toNat=secN n.toNat∧n.toNat≤48*(secF n).toNat:=by
 have hm:=secN_mul n.toNat
 unfold secF at h2⊢
 split at h2
 exact absurd rfl h2
 rename_i h3
 rw[if_neg h3,Int.toNat_natCast]
 exact ⟨by omega,rfl,hm⟩
theorem stands_c (b n:Nat) (turn:Int) (field:List Blk) (q:Option Addr) (e at_ j:Nat) (ht:0≤turn∧turn≤4294967295) (hj:j≤1000000) (hfl:field.length≤1000) (hfe:field.length≤e) (hat:at_≤1000000) (w0:World) (f0:Stable (fun _=>False) w0 (GlF q field)) :
  Ret Tryz.prog 148 [.agg ⟨cBook b n turn⟩,.slice q field.length e,.int .i64 (at_:Int),.int .i64 (j:Int)] w0 (fun _=>False) fun v w'=>
   (standF turn field at_ j=none∧v=.tuple ⟨[.slice none 0 0,.bool false]⟩)∨
   (∃ bs p',standF turn field at_ j=some bs∧v=.tuple ⟨[.slice p' bs.length bs.length,.bool true]⟩∧(entI [⟨p',bs.length,bs⟩]).holds w'∧∀ k,(entI [⟨p',bs.length,bs⟩]).foot k→w0.heap.size≤k):=by
 refine enterM Tryz.func148 rfl rfl (Wd.begin (fs:=[GlF q field]) (by simpa using f0)) (fun a S=>?_)
 simp only[Tryz.ntmps148,qqA,qqB,Nat.reduceAdd,Nat.reduceSub,qqC,qqD,qqE,qqF]at S
 refine kS (kR ?_);refine sa S ?_;clear S;intro b4 a w S;refine sa S ?_;clear S;intro b5 a w S;refine sa S ?_;clear S;intro b6 a w S;refine sa S ?_;clear S;intro b8 a w S;refine sa S ?_;clear S;intro b9 a w S;refine kN (xtn (kS (kS (kR ?_))));(iterate 4 (refine sq S ?_;clear S;intro a S));refine kN (xtn ?_)
 refine kC S (fun h1=>?_) (fun h1=>?_)
 ·refine kS (kR ?_);(iterate 2 (refine sw S ?_;clear S;intro a w S));refine kN (xtn (kT (xtr ?_)))
  have h:field.length≤at_:=by have:=of_decide_eq_true h1;omega
  refine endM2 S (fun w hw=>.inl ⟨by rw[standF,if_pos h],rfl⟩)
 ·refine kK (xtn (kS ?_))
  have hlt:at_ < field.length:=by have:=of_decide_eq_false h1;omega
  have hK:KLt at_ field.length:=⟨hlt⟩
  have hL1:LeC 12 64:=⟨by omega⟩
  have hL2:LeC 64 64:=⟨by omega⟩
  have hL3:LeC 16 64:=⟨by omega⟩
  obtain ⟨x,hx⟩:∃ x,x=nthG field at_:=⟨_,rfl⟩
  have hxl:=x.h
  refine kR ?_;(iterate 4 (refine sq S ?_;clear S;intro a S))
  rw[show (Value.slice (some (if 64=12 then gAddr q at_ 64 0 else gAddr q at_ 64 (0+12*1))) (64 - 12) (64 - 12))=.slice (some (gAddr q at_ 64 12)) 52 52 from rfl]at S
  have hold:=foots_lt S
  refine snew S (oread_c (x.l.drop 12) (some (gAddr q at_ 64 12)) 52 52 _ (by rw[List.length_drop];omega) (by omega) ((S.mem.fact (GlF q field)).imp (fun _ h=>hx▸gl_elem 12 hlt h) |>.less fun _ _ h=>h.elim)) ?_;clear S;rintro _ a w hsz ⟨br,qr,er,rfl,hbr,hrd,hqe,hq⟩ hS -
  have S:=hS (Wk.box br 238 [.slice qr (x.l.drop 12).length er,.int .i64 0]) hrd (fun k hk=>by rw[show k=br from hk];exact hbr)
  clear hS
  replace S:=St.addOld S hold hq
  have hd4:(x.l.drop 12).length=52:=by rw[List.length_drop];omega
  refine sq S ?_;clear S;intro a S;refine kN (xtn (kS (kR (sq S ?_))));clear S;intro a S
  refine sit (Wk.box br 238 [.slice qr (x.l.drop 12).length er,.int .i64 0]) S (u16_c br (x.l.drop 12) qr er _ (by omega) hqe (by omega) (S.box br) (S.lend (Wk.box br 238 [.slice qr (x.l.drop 12).length er,.int .i64 0]) (S.mem.fact (GlF qr (x.l.drop 12))))) rfl ?_;clear S;rintro _ a w ⟨rfl,hbx⟩ hS
  have S:=hS (Wk.box br 238 [.slice (if er=2 then qr else qr.map (·.add (2*1))) ((x.l.drop 12).length - 2) (er - 2),.int .i64 0]) hbx (fun k h=>.inl h)
  clear hS
  refine sq S ?_;clear S;intro a S
  have hsr:=sizeAt_range x
  rw[show u16B (x.l.drop 12)=sizeAt x from rfl]at S
  obtain ⟨sz,hsz2⟩:∃ sz:Nat,sizeAt x=(sz:Int):=⟨(sizeAt x).toNat,by omega⟩
  rw[hsz2]at hsr
  rw[hsz2,w64 (sz:Int) (by omega) (by omega)]at S
  refine sq S ?_;clear S;intro a S;refine kN (xtn (kS (kR (sq S ?_))));clear S;intro a S;refine sr S (sectors_c (sz:Int) _) ?_;clear S;rintro _ a w rfl S
  have hsb:=secF_bound (sz:Int)
  obtain ⟨M,hM⟩:∃ M:Nat,secF (sz:Int)=(M:Int):=⟨(secF (sz:Int)).toNat,by omega⟩
  rw[hM]at S
  refine sq S ?_;clear S;intro a S;refine kN (xtn (kS (kS (kR ?_))));(iterate 3 (refine sq S ?_;clear S;intro a S));(iterate 6 (refine gQ S ?_;clear S;intro a S));refine sq S ?_;clear S;intro a S;refine kN (xtn ?_)
  refine kC S (fun h6=>?_) (fun h6=>?_)
  ·refine kS (kR ?_);(iterate 2 (refine sw S ?_;clear S;intro a w S));refine kN (xtn (kT (xtr ?_)))
   have h:M=0∨field.length - at_ < M:=by
    rw[w64 ((field.length:Int) - (at_:Int)) (by omega) (by omega)]at h6
    simp at h6;omega
   refine endM2 S (fun w hw=>.inl ⟨?_,rfl⟩)
   rw[standF,if_neg (by omega),←hx,hsz2,hM,Int.toNat_natCast,if_pos h]
  ·refine kK (xtn (kS ?_))
   have hM2:M≠0∧M≤field.length - at_:=by
    rw[w64 ((field.length:Int) - (at_:Int)) (by omega) (by omega)]at h6
    simp at h6;omega
   have hss:=secF_size (n:=(sz:Int)) (by omega) (by rw[hM,Int.toNat_natCast];exact hM2.1)
   rw[hM,Int.toNat_natCast,Int.toNat_natCast]at hss
   have hLa:LeC at_ (at_+M):=⟨by omega⟩
   have hLb:LeC (at_+M) e:=⟨by omega⟩
   have hLc:LeC e e:=⟨Nat.le_refl _⟩
   refine kR (sq S ?_);clear S;intro a S;refine kN (xtn (kS (kS (kR ?_))));(iterate 5 (refine sq S ?_;clear S;intro a S))
   rw[show IntKind.i64.wrap ((at_:Int)+(M:Int))=((at_+M:Nat):Int) from by rw[w64 _ (by omega) (by omega)];rfl]at S
   refine sq S ?_;clear S;intro a S
   rw[show at_+M - at_=M from by omega]at S
   obtain ⟨q3,hq3⟩:∃ q3,q3=(if e=at_ then q else q.map (·.add (at_*64))):=⟨_,rfl⟩
   rw[←hq3]at S
   obtain ⟨part,hpart⟩:∃ part,part=(field.drop at_).take M:=⟨_,rfl⟩
   have hpl:part.length=M:=by rw[hpart,List.length_take,List.length_drop];omega
   have hg:∀ w,GlF q field w→GlF q3 part w:=fun w h=>by rw[hpart,hq3];exact (h.drop at_ hfe).take M
   replace S:=S.add (Φ:=GlF q3 part) ((S.mem.fact (GlF q field)).imp hg)
   (iterate 2 (refine sq S ?_;clear S;intro a S))
   replace S:=S.addNil 5 1
   refine kN (xtn (kB ?_))
   refine c_fore3 S (fun(k:Nat) (pr:Option Addr) (cr:Nat) uu=>[(13,.slice pr (48*k) cr),(1,uu 15),(32,.int .i64 (k:Nat)),(0,uu 49),(0,uu 50),(0,uu 51),(0,uu 52),(0,uu 53),(0,uu 54),(0,uu 55)]) (fun(k:Nat) (pr:Option Addr) (cr:Nat)=>[Wk.row 5 1 pr (48*k) cr (encL (gather (part.take k))),Wk.box b9 4 [.bool false],Wk.box b8 25 [.slice none 0 0],Wk.box b6 3 [.int .i64 (at_:Int)],Wk.box b5 219 [.slice q field.length e],Wk.box b4 132 (cBook b n turn),marks []]) (fun(k:Nat) (pr:Option Addr) (cr:Nat)=>[GlF q3 part,GlF q field]) (fun(k:Nat) (pr:Option Addr) (cr:Nat)=>k≤M) (fun(k:Nat) (pr:Option Addr) (cr:Nat)=>M - k) (0) (none) (0) ?_ S.uu ?_ ?_
   ·exact Nat.zero_le _
   ·exact S.sub [Wk.row 5 1 none 0 0 [],Wk.box b9 4 [.bool false],Wk.box b8 25 [.slice none 0 0],Wk.box b6 3 [.int .i64 (at_:Int)],Wk.box b5 219 [.slice q field.length e],Wk.box b4 132 (cBook b n turn),marks []] [GlF q3 part,GlF q field]
   ·clear S;rintro k pr cr uu a w hk S;refine kS (kR (sq S ?_));clear S;intro a S;refine kN (xtn (kS ?_))
    refine kC S (fun h10=>?_) (fun h10=>?_)
    ·refine kK (xtn (kS (kB (kS ?_))))
     have hk2:k < M:=by have:=of_decide_eq_true h10;omega
     have hK2:KLt k part.length:=⟨by omega⟩
     have hK3:KLt k M:=⟨hk2⟩
     obtain ⟨y,hy⟩:∃ y,y=nthG part k:=⟨_,rfl⟩
     have hyl:=y.h
     refine kR ?_;(iterate 2 (refine sq S ?_;clear S;intro a S))
     rw[←hy]at S
     refine sa S ?_;clear S;intro b15 a w S;refine sw S ?_;clear S;intro a w S;refine kN (xtn (kR ?_));(iterate 2 (refine sq S ?_;clear S;intro a S))
     rw[show (Value.slice (some (if 64=16 then (⟨b15,0,none⟩:Addr) else ⟨b15,16*1,none⟩)) (64 - 16) (64 - 16))=.slice (some ⟨b15,16,none⟩) 48 48 from rfl]at S
     replace S:=S.boxToF b15
     replace S:=S.add (Φ:=GlF (some ⟨b15,16,none⟩) (y.l.drop 16)) ((S.mem.fact (BoxF b15 129 (encL y.l))).imp fun _ h=>(glBox h).drop 16 (c:=64) (by rw[hyl];omega))
     have hy48:LenN (y.l.drop 16) 48:=⟨by rw[List.length_drop];omega⟩
     refine sap S (by simp only[maxLen];omega) (by omega) ?_;clear S;rintro p3 c3 a w - S
     rw[←encL_append,hy,←gather_snoc,←take_snocG (by omega:k < part.length),show 48*k+48=48*(k+1) from by omega]at S
     refine sq S ?_;clear S;intro a S;refine kN (xbn (xtn (kR ?_)));(iterate 2 (refine sq S ?_;clear S;intro a S));refine kN (xtn ?_)
     rw[w64 ((k:Int)+1) (by omega) (by omega)]at S
     exact ⟨k+1,p3,c3,S.uu,hk2,S.sub _ _,by omega⟩
    ·refine kE (xte (xte (xbe (xtn (kS ?_)))))
     have hkM:k=M:=by have:=of_decide_eq_false h10;omega
     subst hkM
     rw[List.take_of_length_le (by omega:part.length≤k)]at S
     have hnew:=S.rowNew pr (48*k)
     have hrlt:=row_foot_lt (S.row pr (48*k))
     have hcr:=own_le (S.row pr (48*k))
     replace S:=S.rowToGl pr (gather part) (e:=5) (sz:=1) (n:=48*k) (c:=cr) (fun _ _ _ _=>trivial)
     have hLd:LeC sz cr:=⟨by omega⟩
     have hLe:LeC sz sz:=⟨Nat.le_refl _⟩
     have hLf:LeC 0 sz:=⟨Nat.zero_le _⟩
     have hgl:=gather_len part
     refine kR ?_;(iterate 4 (refine sq S ?_;clear S;intro a S))
     obtain ⟨all,hall⟩:∃ all,all=(gather part).take sz:=⟨_,rfl⟩
     have hal:all.length=sz:=by rw[hall,List.length_take];omega
     have hg2:∀ w,GlF pr (gather part) w→GlF pr all w:=fun w h=>by rw[hall];exact h.take sz
     replace S:=S.add (Φ:=GlF pr all) ((S.mem.fact (GlF pr (gather part))).imp hg2)
     refine sq S ?_;clear S;intro a S;refine kN (xtn (kS (kS (kR ?_))));(iterate 4 (refine sq S ?_;clear S;intro a S))
     rw[wu32 (j:Int) (by omega) (by omega)]at S
     refine sq S ?_;clear S;intro a S
     have hlt2:=foots_lt S
     refine sr S (leaves_f turn (j:Int) pr sz sz _) ?_;clear S;rintro _ a w ⟨g0,g1,g2,rfl,⟨n0,n1,n2⟩,e0,e1,e2⟩ S
     replace S:=S.add (Φ:=BoxF g0 25 [.slice pr sz sz]) (BoxF.stable e0 (fun hm=>by have:=hlt2 _ hm;omega))
     replace S:=S.add (Φ:=BoxF g1 130 [.int .u32 turn]) (BoxF.stable e1 (fun hm=>by have:=hlt2 _ hm;omega))
     replace S:=S.add (Φ:=BoxF g2 130 [.int .u32 (j:Int)]) (BoxF.stable e2 (fun hm=>by have:=hlt2 _ hm;omega))
     refine kN (xtn (kB ?_))
     subst hal
     have hxsl:(leavesF turn (j:Int) all).length=k:=by rw[leavesF_len];exact hss.2.1.symm
     have hst:standF turn field at_ j=if leavesF turn (j:Int) all=part then some all else none:=by
      rw[standF,if_neg (by omega),←hx,hsz2,hM,Int.toNat_natCast,Int.toNat_natCast,if_neg (by omega),←hpart,←hall]
     refine c_range (κ:=Unit) (κx:=Nat) (Ds:=[]) (leavesF turn (j:Int) all)
      (fun i _=>[Wk.box b9 4 [.bool false],Wk.box b8 25 [.slice none 0 0],Wk.box b6 3 [.int .i64 ((at_+i:Nat):Int)],Wk.box b5 219 [.slice q field.length e],Wk.box b4 132 (cBook b n turn),marks []])
      (fun _ _=>[BoxF g2 130 [.int .u32 (j:Int)],BoxF g1 130 [.int .u32 turn],BoxF g0 25 [.slice pr all.length all.length],GlF pr all,GlF pr (gather part),GlF q3 part,GlF q field])
      (fun i _=>part.take i=(leavesF turn (j:Int) all).take i)
      (fun i=>[Wk.box b9 4 [.bool false],Wk.box b8 25 [.slice none 0 0],Wk.box b6 3 [.int .i64 ((at_+i:Nat):Int)],Wk.box b5 219 [.slice q field.length e],Wk.box b4 132 (cBook b n turn),marks []])
      (fun _=>[BoxF g2 130 [.int .u32 (j:Int)],BoxF g1 130 [.int .u32 turn],BoxF g0 25 [.slice pr all.length all.length],GlF pr all,GlF pr (gather part),GlF q3 part,GlF q field])
      (fun cd _=>cd=.ret∧leavesF turn (j:Int) all≠part) () S
      (fun M w1 hM hF _=>leaves_it turn (j:Int) ht (by omega) g0 g1 g2 all pr all.length (by omega) (Nat.le_refl _) w1 M hM (hF _ (by simp)) (hF _ (by simp)) (hF _ (by simp)) (hF _ (by simp))) ⟨rfl,rfl,rfl⟩ ?_ ?_ ?_ ?_
     ·clear S
      rintro L D bL M' w1 i x2 vs ⟨⟩ W0 w hx2 hti hW0 hgr rfl
      have hik:i < k:=by rw[←hxsl];exact (List.getElem?_eq_some_iff.1 hx2).1
      have hpi:part[i]? = some (nthG field (at_+i)):=by
       rw[hpart,List.getElem?_take,if_pos hik,List.getElem?_drop,nthG_get (by omega)]
      have hKi:KLt (at_+i) field.length:=⟨by omega⟩
      refine ⟨_,inferInstance,fun a S=>?_⟩
      refine kR (sa S ?_);clear S;intro b16 a w S;refine sw S ?_;clear S;intro a w S;refine kN (xtn ?_)
      refine rbegin (D:=D) (b:=bL) S ?_;clear S;intro a w S
      refine kB (kS (kS ?_));refine c_drawD [(0,true),(1,true),(2,true),(3,true),(4,true),(5,true)] [] S ?_;clear S;intro w S;(iterate 6 (refine dq S ?_;clear S;intro a S));refine dn (xtn ?_)
      refine kC S (fun h17=>?_) (fun h17=>?_)
      ·refine kS (kR ?_);(iterate 2 (refine sw S ?_;clear S;intro a w S));refine kN (xtn (kT (xtr (xbr ?_))))
       have hne:leavesF turn (j:Int) all≠part:=by
        intro he
        rw[he,hpi]at hx2
        have:=Option.some.inj hx2
        rw[this]at h17
        simp at h17
       refine rret (D:=D) (b:=bL) (S.sub [lpI L D (lpR bL .busy none),Wk.box b9 4 [.bool false],Wk.box b8 25 [.slice none 0 0],Wk.box b6 3 [.int .i64 ((at_+i:Nat):Int)],Wk.box b5 219 [.slice q field.length e],Wk.box b4 132 (cBook b n turn),marks []] [BoxF g2 130 [.int .u32 (j:Int)],BoxF g1 130 [.int .u32 turn],BoxF g0 25 [.slice pr all.length all.length],GlF pr all,GlF pr (gather part),GlF q3 part,GlF q field]) fun W hW=>⟨.inl rfl,i,⟨rfl,hne⟩,hW⟩
      ·refine kK (xtn (kR ?_));(iterate 2 (refine sq S ?_;clear S;intro a S))
       rw[show IntKind.i64.wrap (((at_+i:Nat):Int)+1)=((at_+(i+1):Nat):Int) from by rw[w64 _ (by omega) (by omega)];rfl]at S
       refine sw S ?_;clear S;intro a w S;refine kN (xbn ?_)
       have hxe:x2=nthG field (at_+i):=Blk.ext' (by simpa using (by simpa using h17:(nthG field (at_+i)).l=x2.l).symm)
       refine rnext (D:=D) (b:=bL) (S.sub [lpI L D (lpR bL .busy none),Wk.box b9 4 [.bool false],Wk.box b8 25 [.slice none 0 0],Wk.box b6 3 [.int .i64 ((at_+(i+1):Nat):Int)],Wk.box b5 219 [.slice q field.length e],Wk.box b4 132 (cBook b n turn),marks []] [BoxF g2 130 [.int .u32 (j:Int)],BoxF g1 130 [.int .u32 turn],BoxF g0 25 [.slice pr all.length all.length],GlF pr all,GlF pr (gather part),GlF q3 part,GlF q field]) fun W hW=>⟨(),by rw[List.take_add_one,List.take_add_one,hti,hpi,hx2,hxe],hW⟩
     ·clear S
      rintro D ⟨⟩ a w hti S
      replace S:=S.join (Ds:=[])
      refine xbn (xtn (kS (kR (sq S ?_))));clear S;intro a S;(iterate 2 (refine sw S ?_;clear S;intro a w S));refine kN (xtn (kT ?_))
      have he:leavesF turn (j:Int) all=part:=by
       rw[hxsl,List.take_of_length_le (by omega),List.take_of_length_le (by omega)]at hti
       exact hti.symm
      refine endM2 S (fun w hw=>.inr ⟨all,pr,by rw[hst,if_pos he],rfl,ent1_holds (fun ad ha=>?_) (hw.facts (GlF pr all) (by simp)).now,fun k2 ⟨y,hy,ad,ha,hk2⟩=>?_⟩)
      ·exact gl_block (hw.facts (GlF pr (gather part)) (by simp)).now (by omega) ha
      ·obtain rfl:=List.mem_singleton.1 hy
       exact hk2▸(hnew ad ha).elim (fun h=>h.elim) id
     ·rintro D i a w ⟨-,hne⟩ S
      replace S:=S.join (Ds:=[])
      repeat (first | refine xbr ?_ | refine xtr ?_)
      refine endM2 S (fun w hw=>.inl ⟨?_,rfl⟩)
      rw[hst,if_neg hne]
     ·rintro id D _ a w ⟨h,-⟩;cases h
def clrW (fr:Nat):List Blk→Nat→Bool→DS→DS × Int × Bool
 | [],_,sy,s=>(s,0,sy)
 | x::xs,i,sy,s=>if x.l=zB.l then clrW fr xs (i+1) sy s else if askE s ((fr+i:Nat):Int) true=0 then clrW fr xs (i+1) true (wrD s ((fr+i:Nat):Int) zB) else (wrD s ((fr+i:Nat):Int) zB,askE s ((fr+i:Nat):Int) true,true)
def clrR (r:DS × Int × Bool):DS × Int:=if r.2.1=0 then (if r.2.2 then (syD r.1,askE r.1 0 true) else (r.1,0)) else (r.1,r.2.1)
def clrF (fr fin:Nat) (field:List Blk) (s:DS):DS × Int:=clrR (clrW fr (field.drop fin) fin (decide (0 < s.loose.length)) s)
theorem clears_c (g b m:Nat) (p:Option Addr) (c:Nat) (s:DS) (qs:Option Addr) (es:Nat) (x:WS) (field:List Blk) (q:Option Addr) (e:Nat) (w0:World) (hn:x.n≤1000) (hfl:field.length=x.n) (hfi:x.fin≤x.n) (ht:0≤x.turn∧x.turn≤4294967295) (hl:s.loose.length≤990000) (hd:(dkI b m p c s).holds w0)
  (f0:Stable (dkI b m p c s).foot w0 (BoxF g 134 (cWal b qs es x))) (f1:Stable (dkI b m p c s).foot w0 (GlF q field)) :
  Ret Tryz.prog 149 [.pointer (some ⟨g,0,none⟩),.slice q field.length e] w0 (dkI b m p c s).foot fun v w'=>v=.int .i64 (clrF (fromN x.n x.turn) x.fin field s).2∧∃ p' c',(dkI b m p' c' (clrF (fromN x.n x.turn) x.fin field s).1).holds w'∧∀ i,(dkI b m p' c' (clrF (fromN x.n x.turn) x.fin field s).1).foot i→(dkI b m p c s).foot i∨w0.heap.size≤i:=by
 have hfr:fromN x.n x.turn≤1002:=by
  unfold fromN
  rcases (show (x.turn % 2).toNat=0∨(x.turn % 2).toNat=1 by omega) with h | h <;> rw[h] <;> omega
 refine enter Tryz.func149 rfl rfl (Wd.itLent (x:=dkI b m p c s) (fs:=[BoxF g 134 (cWal b qs es x),GlF q field]) hd (by simp;exact ⟨f0,f1⟩)) (fun a S=>?_)
 simp only[Tryz.ntmps149,qqA,qqB,Nat.reduceAdd,Nat.reduceSub,qqC,qqD,qqE,qqF]at S
 refine kS (kR (sq S ?_));clear S;intro a S;refine kN (xtn (kS (kR ?_)));(iterate 5 (refine sq S ?_;clear S;intro a S))
 have hdk:(dkI b m p c s).holds w0:=S.it (dkI b m p c s)
 refine srn S (dpending_c b m p c s _ (by omega) (BoxF.stable hdk.1 (fun h=>h)) (gl_own hdk.2.1.2.1 (fun _ _ _ _=>trivial) (fun _ _ h=>h))) ?_;clear S;rintro _ a w ⟨q1,e1,rfl,hown,hg⟩ hS -
 have S:=hS hown hg
 clear hS
 (iterate 3 (refine sq S ?_;clear S;intro a S));refine kN (xtn (kS (kS (kR ?_))));(iterate 5 (refine sq S ?_;clear S;intro a S));refine kN (xtn (kB ?_))
 rw[show decide ((0:Int) < (s.loose.length:Int))=decide (0 < s.loose.length) from decide_eq_decide.2 (by omega)]at S
 refine c_fore5 S (fun(i:Nat) (sy:Bool) (s':DS) (p':Option Addr) (c':Nat) uu=>[(4,uu 4),(0,.bool sy),(0,.int .i64 (i:Nat)),(0,uu 7),(12,uu 20),(0,uu 21),(0,uu 22),(0,uu 23),(0,uu 24),(0,uu 25),(0,uu 26),(0,uu 27),(0,uu 28),(0,uu 29),(0,uu 30),(0,uu 31),(0,uu 32),(0,uu 33),(0,uu 34),(0,uu 35),(0,uu 36),(0,uu 37),(0,uu 38),(0,uu 39),(0,uu 40),(0,uu 41),(0,uu 42),(0,uu 43),(0,uu 44),(0,uu 45),(0,uu 46),(0,uu 47),(0,uu 48),(0,uu 49),(0,uu 50),(0,uu 51)]) (fun(i:Nat) (sy:Bool) (s':DS) (p':Option Addr) (c':Nat)=>[dkI b m p' c' s']) (fun(i:Nat) (sy:Bool) (s':DS) (p':Option Addr) (c':Nat)=>[BoxF g 134 (cWal b qs es x),GlF q field]) (fun(i:Nat) (sy:Bool) (s':DS) (p':Option Addr) (c':Nat)=>i≤x.n∧clrF (fromN x.n x.turn) x.fin field s=clrR (clrW (fromN x.n x.turn) (field.drop i) i sy s')∧s'.loose.length≤s.loose.length+i) (fun(i:Nat) (sy:Bool) (s':DS) (p':Option Addr) (c':Nat)=>x.n - i) (x.fin) (decide (0 < s.loose.length)) (s) (p) (c) ?_ S.uu ?_ ?_
 exact ⟨hfi,rfl,by omega⟩
 first | exact S | exact S.sub _ _
 clear S;rintro i sy s' p' c' uu a w ⟨hi,hre,hsl⟩ S
 refine kS (kS (kR ?_));(iterate 7 (refine sq S ?_;clear S;intro a S));refine kN (xtn ?_)
 refine kC S (fun h3=>?_) (fun h3=>?_)
 refine kK (xtn (kS (kB (kS (kS ?_)))))
 have hi2:i < x.n:=by have:=of_decide_eq_true h3;omega
 have hK:KLt i field.length:=⟨by omega⟩
 have hdr:field.drop i=nthG field i::field.drop (i+1):=by
  have h1:=nthG_get (xs:=field) (k:=i) (by omega)
  rw[List.drop_eq_getElem_cons (by omega),(List.getElem?_eq_some_iff.1 h1).2]
 obtain ⟨y,hy⟩:∃ y,y=nthG field i:=⟨_,rfl⟩
 rw[hdr,clrW,←hy]at hre
 refine kR ?_;(iterate 4 (refine sq S ?_;clear S;intro a S))
 rw[←hy]at S
 refine sq S ?_;clear S;intro a S
 rw[show (encL (List.replicate 64 (0:UInt8)):List Value)=encL zB.l from rfl]at S
 refine sq S ?_;clear S;intro a S;refine kN (xtn ?_)
 refine kC S (fun h5=>?_) (fun h5=>?_)
 refine kE (xte (xbe (xtn (kR ?_))));(iterate 3 (refine sq S ?_;clear S;intro a S));refine kN (xtn ?_)
 rw[show IntKind.i64.wrap ((i:Int)+1)=((i+1:Nat):Int) from by rw[w64 _ (by omega) (by omega)];rfl]at S
 rw[if_pos (of_decide_eq_true h5)]at hre
 exact ⟨i+1,sy,s',p',c',S.uu,⟨hi2,hre,by omega⟩,S.sub _ _,by omega⟩
 refine kK (xtn (kS (kR (sq S ?_))));clear S;intro a S;refine kN (xtn (kS ?_));refine c_drawE [(0,true),(1,true),(2,true),(3,true),(4,true),(5,true),(6,true),(7,true),(8,true),(10,true),(12,true),(9,false),(11,true),(13,false),(14,true)] [] S ?_;clear S;intro w S;(iterate 11 (refine dq S ?_;clear S;intro a S))
 rw[show (encL (List.replicate 64 (0:UInt8)):List Value)=encL zB.l from rfl]at S
 refine dl ?_;refine sr S (from_c b x.n x.turn hn ht _) ?_;clear S;rintro _ a w rfl S;refine de S ?_;refine dq S ?_;clear S;intro a S
 rw[show IntKind.i64.wrap ((fromN x.n x.turn:Int)+(i:Int))=((fromN x.n x.turn+i:Nat):Int) from by rw[w64 _ (by omega) (by omega)];rfl]at S
 refine dl ?_
 refine sit (dkI b m p' c' s') S (dwrite_c b m p' c' s' ((fromN x.n x.turn+i:Nat):Int) zB _ (by omega) (S.it (dkI b m p' c' s'))) rfl ?_;clear S;rintro _ a w ⟨rfl,p2,c2,hh,hn2⟩ hS
 have S:=hS (dkI b m p2 c2 (wrD s' ((fromN x.n x.turn+i:Nat):Int) zB)) hh hn2
 clear hS
 refine de S ?_;refine dq S ?_;clear S;intro a S;refine dn (xtn (kS (kR ?_)));(iterate 2 (refine sq S ?_;clear S;intro a S));refine kN (xtn ?_)
 refine kC S (fun h8=>?_) (fun h8=>?_)
 refine kS (kR ?_);(iterate 2 (refine sq S ?_;clear S;intro a S));refine kN (xtn (kT (xbr (xtr (xtr (xbr (xtr ?_)))))))
 have he:askE s' ((fromN x.n x.turn+i:Nat):Int) true≠0:=by simpa using h8
 rw[if_neg (of_decide_eq_false h5),if_neg he]at hre
 have h1:=S.itNew (dkI b m p2 c2 (wrD s' ((fromN x.n x.turn+i:Nat):Int) zB)) rfl
 have hh:=S.it (dkI b m p2 c2 (wrD s' ((fromN x.n x.turn+i:Nat):Int) zB))
 refine end1 S (fun _=>?_)
 rw[hre,clrR,if_neg he]
 exact ⟨rfl,p2,c2,hh,h1⟩
 refine kK (xbn (xtn (kR ?_)));(iterate 3 (refine sq S ?_;clear S;intro a S));refine kN (xtn ?_)
 rw[show IntKind.i64.wrap ((i:Int)+1)=((i+1:Nat):Int) from by rw[w64 _ (by omega) (by omega)];rfl]at S
 have he:askE s' ((fromN x.n x.turn+i:Nat):Int) true=0:=by simpa using h8
 rw[if_neg (of_decide_eq_false h5),if_pos he]at hre
 have:=wrD_loose s' ((fromN x.n x.turn+i:Nat):Int) zB
 exact ⟨i+1,true,wrD s' ((fromN x.n x.turn+i:Nat):Int) zB,p2,c2,S.uu,⟨hi2,hre,by omega⟩,S.sub _ _,by omega⟩
 refine kE (xte (xte (xbe (xtn (kS (kS ?_))))))
 have hi2:i=x.n:=by have:=of_decide_eq_false h3;omega
 rw[List.drop_of_length_le (by omega),clrW,clrR,if_pos rfl]at hre
 refine kR ?_;(iterate 2 (refine sq S ?_;clear S;intro a S));refine kN (xtn ?_)
 refine kC S (fun h10=>?_) (fun h10=>?_)
 refine kS (kR (sq S ?_));clear S;intro a S;refine kN (xtn (kT (xtr ?_)))
 have hsy:sy=false:=by simpa using h10
 rw[if_neg (by rw[hsy];exact Bool.false_ne_true)]at hre
 have h1:=S.itNew (dkI b m p' c' s') rfl
 have hh:=S.it (dkI b m p' c' s')
 refine end1 S (fun _=>?_)
 rw[hre]
 exact ⟨rfl,p',c',hh,h1⟩
 refine kK (xtn (kS (kR ?_)));(iterate 5 (refine sq S ?_;clear S;intro a S))
 refine sit (dkI b m p' c' s') S (dsync_c b m p' c' s' _ (by omega) (S.it (dkI b m p' c' s'))) rfl ?_;clear S;rintro _ a w ⟨rfl,p2,c2,hh,hn2⟩ hS
 have S:=hS (dkI b m p2 c2 (syD s')) hh hn2
 clear hS
 refine sq S ?_;clear S;intro a S;refine kN (xtn (kT ?_))
 have hsy:sy=true:=by simpa using h10
 rw[if_pos hsy]at hre
 have h1:=S.itNew (dkI b m p2 c2 (syD s')) rfl
 have hh:=S.it (dkI b m p2 c2 (syD s'))
 refine end1 S (fun _=>?_)
 rw[hre]
 exact ⟨rfl,p2,c2,hh,h1⟩
section
variable {w0:World} {M0:Nat→Prop} {ds:List Deferred} {a:Act} {w:World} {l:List Value} {bs bs':List Wk.Item} {fs:List (World→Prop)}
theorem St.become (S:St w0 M0 ds a w l bs fs) (x y:Wk.Item) [hr:ReplI bs x y bs'] [oy:ItOk y] (hx:x.holds w) (h:x.holds w→y.holds w) (hf:∀ k,y.foot k→x.foot k) (ho:x.own=true:=by rfl):St w0 M0 ds a w l bs' fs:=
 S.reput (x:=x) (y:=y) S.slots S.defers ho (Agree.refl _ _) (h hx) (fun k hk=>.inl (hf k hk)) (oy.lt w (h hx)) oy.loc
theorem St.entAdd {xs ys:List LBy} (S:St w0 M0 ds a w l (entI ys::entI xs::bs) fs):St w0 M0 ds a w l (entI (xs++ys)::bs) fs:=by
 have S1:=S.toBoth
 refine St.become S1 (both (entI ys) (entI xs)) (entI (xs++ys)) (S1.it (both (entI ys) (entI xs))) (fun h x hx=>?_) (fun k ⟨x,hx,h⟩=>?_)
 rcases List.mem_append.1 hx with hx | hx
 exact h.2.1 x hx
 exact h.1 x hx
 rcases List.mem_append.1 hx with hx | hx
 exact .inr ⟨x,hx,h⟩
 exact .inl ⟨x,hx,h⟩
end
theorem enc_setB (l1 l2:List Blk) (x y:Blk):(encL (l1++y::l2)).take (l1.length*64)++encL x.l++(encL (l1++y::l2)).drop (l1.length*64+(encL x.l).length)=encL (l1++x::l2):=by
 have h1:(encL l1).length=l1.length*64:=by rw[encL_len];rfl
 have h2:(encL x.l).length=64:=x.len
 have h3:(encL y.l).length=64:=y.len
 have e:encL (l1++y::l2)=encL l1++(encL y.l++encL l2):=by rw[encL_append,encL_cons];rfl
 rw[e,←h1,List.take_left,h2,←h3,←List.drop_drop,List.drop_left,List.drop_left,encL_append,encL_cons,List.append_assoc];rfl
theorem enc_rep:∀ n:Nat,encL (List.replicate n zB)=(List.replicate n (encL (List.replicate 64 (0:UInt8)))).flatten
 | 0=>rfl
 | n+1=>by rw[qqC,encL_cons,qqC,List.flatten_cons,enc_rep n];rfl
def fieldW (fr:Nat):Nat→Nat→DS→DS × Int × List Blk
 | 0,_,s=>(s,0,[])
 | k+1,i,s=>if askE s ((fr+i:Nat):Int) false=0 then ((fieldW fr k (i+1) (rdD s ((fr+i:Nat):Int))).1,(fieldW fr k (i+1) (rdD s ((fr+i:Nat):Int))).2.1,rdB s ((fr+i:Nat):Int)::(fieldW fr k (i+1) (rdD s ((fr+i:Nat):Int))).2.2) else (rdD s ((fr+i:Nat):Int),askE s ((fr+i:Nat):Int) false,[])
structure OW where
 n:Nat
 turn:Int
 said:List (List UInt8)
 fin:Nat
def noOW:OW:=⟨0,0,[],0⟩
def openC (n:Nat) (t:Int) (f:List Blk) (s:DS):DS × Int × OW:=
 if (readF t f f.length 0 0).1=[] then (s,140,noOW) else
 if (clrF (fromN n t) (readF t f f.length 0 0).2 f s).2=0 then ((clrF (fromN n t) (readF t f f.length 0 0).2 f s).1,0,⟨n,t,(readF t f f.length 0 0).1,(readF t f f.length 0 0).2⟩)
 else ((clrF (fromN n t) (readF t f f.length 0 0).2 f s).1,(clrF (fromN n t) (readF t f f.length 0 0).2 f s).2,noOW)
def openB (n:Nat) (t:Int) (s:DS):DS × Int × OW:=
 if (fieldW (fromN n t) n 0 s).2.1=0 then openC n t (fieldW (fromN n t) n 0 s).2.2 (fieldW (fromN n t) n 0 s).1 else ((fieldW (fromN n t) n 0 s).1,(fieldW (fromN n t) n 0 s).2.1,noOW)
def openF (s:DS):DS × Int × OW:=if (cntF s).2.1=0 then openB (cntF s).2.2.n.toNat (cntF s).2.2.t (cntF s).1 else ((cntF s).1,(cntF s).2.1,noOW)
theorem cntR_ok:∀ (k i:Nat) (s:DS) (B:Bst),(B.has=true→(4≤B.n∧B.n≤1000)∧0≤B.t∧B.t≤4294967295)→(cntR k i s B).1.loose=s.loose∧((cntR k i s B).2.1=0→(cntR k i s B).2.2.has=true∧(4≤(cntR k i s B).2.2.n∧(cntR k i s B).2.2.n≤1000)∧0≤(cntR k i s B).2.2.t∧(cntR k i s B).2.2.t≤4294967295)
 | 0,i,s,B,h=>by
  rw[cntR]
  split
  rename_i hb;exact ⟨rfl,fun _=>⟨hb,h hb⟩⟩
  exact ⟨rfl,fun h=>by cases h⟩
 | k+1,i,s,B,h=>by
  rw[cntR]
  split
  have h1:=cntR_ok k (i+1) (rdD s i) (cntStep (rdD s i) i (rdB s i) B) (by
   unfold cntStep
   split
   rename_i hc
   intro _
   have ht:=u32B_range ((((rdB s i).l.drop 4).drop 4))
   simp only[candF,mayF,Bool.and_eq_true,decide_eq_true_eq]at hc
   exact ⟨⟨hc.1.1.1.1,hc.1.1.1.2.1⟩,ht⟩
   exact h)
  rw[rdD_loose]at h1
  exact h1
  rename_i he;exact ⟨rdD_loose s i,fun h=>absurd h he⟩
theorem cntF_ok (s:DS):(cntF s).1.loose=s.loose∧((cntF s).2.1=0→(cntF s).2.2.has=true∧(4≤(cntF s).2.2.n∧(cntF s).2.2.n≤1000)∧0≤(cntF s).2.2.t∧(cntF s).2.2.t≤4294967295):=
 cntR_ok 2 0 s ⟨false,0,0⟩ (fun h=>by cases h)
def ptV:List LBy→Value
 | []=>.slice none 0 0
 | y::_=>.slice y.p y.bs.length y.c
theorem stands_v (b n:Nat) (turn:Int) (field:List Blk) (q:Option Addr) (e at_ j:Nat) (ht:0≤turn∧turn≤4294967295) (hj:j≤1000000) (hfl:field.length≤1000) (hfe:field.length≤e) (hat:at_≤1000000) (w0:World) (f0:Stable (fun _=>False) w0 (GlF q field)) :
  Ret Tryz.prog 148 [.agg ⟨cBook b n turn⟩,.slice q field.length e,.int .i64 (at_:Int),.int .i64 (j:Int)] w0 (fun _=>False) fun v w'=>
   ∃ r:List LBy,v=.tuple ⟨[ptV r,.bool (!r.isEmpty)]⟩∧(entI r).holds w'∧(∀ k,(entI r).foot k→w0.heap.size≤k)∧((r=[]∧standF turn field at_ j=none)∨∃ y,r=[y]∧standF turn field at_ j=some y.bs):=by
 refine (stands_c b n turn field q e at_ j ht hj hfl hfe hat w0 f0).mono fun v w'=>?_
 rintro (⟨h1,rfl⟩ | ⟨bs,p',h1,rfl,h2,h3⟩)
 exact ⟨[],rfl,fun x hx=>(by cases hx),fun k ⟨x,hx,_⟩=>(by cases hx),.inl ⟨rfl,h1⟩⟩
 exact ⟨[⟨p',bs.length,bs⟩],rfl,h2,h3,.inr ⟨_,rfl,h1⟩⟩
theorem open_c (b m:Nat) (p:Option Addr) (c:Nat) (s:DS) (w0:World) (hl:s.loose.length≤980000) (hd:(dkI b m p c s).holds w0) :
  Ret Tryz.prog 54 [.pointer (some ⟨b,0,none⟩)] w0 (dkI b m p c s).foot fun v w'=>
   ((openF s).2.1≠0∧v=.tuple ⟨[.pointer none,.int .i64 (openF s).2.1]⟩∧∃ p' c',(dkI b m p' c' (openF s).1).holds w'∧∀ k,(dkI b m p' c' (openF s).1).foot k→(dkI b m p c s).foot k∨w0.heap.size≤k)∨
   ((openF s).2.1=0∧∃ g p' c' q e,∃ x:WS,v=.tuple ⟨[.pointer (some ⟨g,0,none⟩),.int .i64 0]⟩∧(x.n=(openF s).2.2.n∧x.turn=(openF s).2.2.turn∧x.said.map LBy.bs=(openF s).2.2.said∧x.fin=(openF s).2.2.fin∧x.broken=false)∧(both (dkI b m p' c' (openF s).1) (walI g b q e x)).holds w'∧∀ k,(both (dkI b m p' c' (openF s).1) (walI g b q e x)).foot k→(dkI b m p c s).foot k∨w0.heap.size≤k):=by
 have hcok:=cntF_ok s
 refine enter Tryz.func54 rfl rfl (Wd.itLent (x:=dkI b m p c s) (fs:=[]) hd (by simp)) (fun a S=>?_)
 simp only[Tryz.ntmps54,qqA,qqB,Nat.reduceAdd,Nat.reduceSub,qqC,qqD,qqE,qqF]at S
 refine kS (kR ?_);(iterate 2 (refine sq S ?_;clear S;intro a S));refine kN (xtn (c_scope (kS (kS (kR ?_)))));(iterate 2 (refine sq S ?_;clear S;intro a S));refine kN (xtn ?_);refine c_condF S ?_;refine kK (xtn (kS (kR (sq S ?_))));clear S;intro a S
 refine sit (dkI b m p c s) S (counts_c b m p c s _ (by omega) (S.it (dkI b m p c s))) rfl ?_;clear S;rintro _ a w ⟨rfl,p1,c1,hh,hn1⟩ hS
 have S:=hS (dkI b m p1 c1 (cntF s).1) hh hn1
 clear hS
 (iterate 3 (refine sq S ?_;clear S;intro a S));refine sa S ?_;clear S;intro b4 a w S;refine sw S ?_;clear S;intro a w S;refine sq S ?_;clear S;intro a S;refine kN (xtn (kS (kS (kR ?_))));(iterate 2 (refine sq S ?_;clear S;intro a S));refine kN (xtn ?_)
 refine kC S (fun h4=>?_) (fun h4=>?_)
 ·refine kS (kR ?_);(iterate 3 (refine sq S ?_;clear S;intro a S));refine kN (xtn (kT (xtr (xsr ?_))))
  have he:(cntF s).2.1≠0:=by simpa using h4
  have h1:=S.itNew (dkI b m p1 c1 (cntF s).1) rfl
  have hh:=S.it (dkI b m p1 c1 (cntF s).1)
  refine end2 S (fun _=>.inl ?_)
  rw[openF,if_neg he]
  exact ⟨he,rfl,p1,c1,hh,h1⟩
 ·refine kK (xtn (kS ?_))
  have he:(cntF s).2.1=0:=by simpa using h4
  obtain ⟨hl1,hok⟩:=hcok
  obtain ⟨hhas,hnr,htr⟩:=hok he
  obtain ⟨n,hn⟩:∃ n:Nat,(cntF s).2.2.n=(n:Int):=⟨(cntF s).2.2.n.toNat,by omega⟩
  obtain ⟨turn,hturn⟩:∃ turn,turn=(cntF s).2.2.t:=⟨_,rfl⟩
  obtain ⟨s1,hs1⟩:∃ s1,s1=(cntF s).1:=⟨_,rfl⟩
  have hopen:openF s=openB n turn s1:=by rw[openF,if_pos he,hn,Int.toNat_natCast,hturn,hs1]
  rw[show cBst b (cntF s).2.2=cBook b n turn from by rw[cBst,ptB,if_pos hhas,hn,hturn]]at S
  rw[show ([.pointer (ptB b (cntF s).2.2),.int .i64 (cntF s).2.2.n,.int .u32 (cntF s).2.2.t]:List Value)=cBook b n turn from by rw[ptB,if_pos hhas,hn,hturn]]at S
  rw[hn]at hnr
  rw[←hturn]at htr
  rw[←hs1]at S hl1
  rw[hopen]
  have hfr:fromN n turn≤1002:=by
   unfold fromN
   rcases (show (turn % 2).toNat=0∨(turn % 2).toNat=1 by omega) with h | h <;> rw[h] <;> omega
  refine kR ?_;(iterate 2 (refine sq S ?_;clear S;intro a S))
  refine smk n S rfl rfl (by omega) (by simp only[maxLen];omega) ?_;clear S;intro g a w S
  rw[show (List.replicate n (encL (List.replicate 64 (0:UInt8)))).flatten=encL (List.replicate n zB) from (enc_rep n).symm]at S
  refine sq S ?_;clear S;intro a S;refine kN (xtn (kS (kS (kR ?_))));(iterate 3 (refine sq S ?_;clear S;intro a S));refine kN (xtn (kB ?_))
  refine c_forf5 S (fun(i:Nat) (fs:List Blk) (s':DS) (p':Option Addr) (c':Nat) uu=>[(2,uu 2),(0,uu 3),(1,uu 5),(1,uu 7),(19,.int .i64 (i:Nat)),(0,uu 28),(0,uu 29),(0,uu 30),(0,uu 31),(0,uu 32),(0,uu 33),(0,uu 34),(0,uu 35),(0,uu 36),(0,uu 37),(0,uu 38),(0,uu 39),(0,uu 40),(0,uu 41),(0,uu 42),(0,uu 43),(0,uu 44),(0,uu 45)]) (fun(i:Nat) (fs:List Blk) (s':DS) (p':Option Addr) (c':Nat)=>[Wk.row 129 64 (some ⟨g,0,none⟩) n n (encL (fs++List.replicate (n - i) zB)),Wk.box b4 132 (cBook b n turn),dkI b m p' c' s']) (fun(i:Nat) (fs:List Blk) (s':DS) (p':Option Addr) (c':Nat)=>i≤n∧fs.length=i∧s'.loose=s1.loose∧fieldW (fromN n turn) n 0 s1=((fieldW (fromN n turn) (n - i) i s').1,(fieldW (fromN n turn) (n - i) i s').2.1,fs++(fieldW (fromN n turn) (n - i) i s').2.2)) (fun(i:Nat) (fs:List Blk) (s':DS) (p':Option Addr) (c':Nat)=>n - i) (0) ([]) (s1) (p1) (c1) ?_ S.uu ?_ ?_
  ·exact ⟨by omega,rfl,rfl,rfl⟩
  ·first | exact S | exact S.sub _ _
  ·clear S;rintro i fs s' p' c' uu a w ⟨hi,hfs,hsl,hre⟩ S
   refine kS (kR (sq S ?_));clear S;intro a S;refine kN (xtn (kS ?_))
   refine kC S (fun h8=>?_) (fun h8=>?_)
   ·refine kK (xtn (kS (kB (kS ?_))))
    have hi2:i < n:=by have:=of_decide_eq_true h8;omega
    have hKi:KLt i n:=⟨hi2⟩
    rw[show n - i=(n - (i+1))+1 from by omega,fieldW]at hre
    refine kR ?_;(iterate 2 (refine sq S ?_;clear S;intro a S));refine kN (xtn (kS (kR ?_)));(iterate 4 (refine sq S ?_;clear S;intro a S))
    refine sr S (from_c b n turn (by omega) htr _) ?_;clear S;rintro _ a w rfl S
    (iterate 2 (refine sq S ?_;clear S;intro a S))
    rw[show IntKind.i64.wrap ((fromN n turn:Int)+(i:Int))=((fromN n turn+i:Nat):Int) from by rw[w64 _ (by omega) (by omega)];rfl]at S
    refine sit (dkI b m p' c' s') S (dread_c b m p' c' s' ((fromN n turn+i:Nat):Int) _ (by rw[hsl,hl1];omega) (S.it (dkI b m p' c' s'))) rfl ?_;clear S;rintro _ a w ⟨rfl,p2,c2,hh,hn2⟩ hS
    have S:=hS (dkI b m p2 c2 (rdD s' ((fromN n turn+i:Nat):Int))) hh hn2
    clear hS
    obtain ⟨y,hy⟩:∃ y,y=rdB s' ((fromN n turn+i:Nat):Int):=⟨_,rfl⟩
    rw[←hy]at S hre
    (iterate 4 (refine sq S ?_;clear S;intro a S))
    rw[show (⟨g,i*64,none⟩:Addr)=rAddr (some ⟨g,0,none⟩) (i*64) from by rw[rAddr,Option.getD_some,add_lit]]at S
    refine sws S n (by omega) (by omega) ?_;clear S;intro a w S
    rw[show n - i=(n - (i+1))+1 from by omega,qqC,←hfs,enc_setB,hfs,show fs++y::List.replicate (n - (i+1)) zB=(fs++[y])++List.replicate (n - (i+1)) zB from by rw[List.append_assoc];rfl]at S
    refine sq S ?_;clear S;intro a S;refine kN (xtn (kS (kR ?_)));(iterate 2 (refine sq S ?_;clear S;intro a S));refine kN (xtn ?_)
    refine kC S (fun h11=>?_) (fun h11=>?_)
    ·refine kS (kR ?_);(iterate 3 (refine sq S ?_;clear S;intro a S));refine kN (xtn (kT (xbr (xtr (xtr (xbr (xtr (xsr ?_))))))))
     have he2:askE s' ((fromN n turn+i:Nat):Int) false≠0:=by simpa using h11
     rw[if_neg he2]at hre
     have h1:=S.itNew (dkI b m p2 c2 (rdD s' ((fromN n turn+i:Nat):Int))) rfl
     have hh:=S.it (dkI b m p2 c2 (rdD s' ((fromN n turn+i:Nat):Int)))
     refine end2 S (fun _=>.inl ?_)
     rw[openB,hre,if_neg he2]
     exact ⟨he2,rfl,p2,c2,hh,h1⟩
    ·refine kK (xbn (xtn (kR ?_)));(iterate 2 (refine sq S ?_;clear S;intro a S));refine kN (xtn ?_)
     rw[show IntKind.i64.wrap ((i:Int)+1)=((i+1:Nat):Int) from by rw[w64 _ (by omega) (by omega)];rfl]at S
     have he2:askE s' ((fromN n turn+i:Nat):Int) false=0:=by simpa using h11
     rw[if_pos he2]at hre
     exact ⟨i+1,fs++[y],rdD s' ((fromN n turn+i:Nat):Int),p2,c2,S.uu,⟨hi2,by simp[hfs],by rw[rdD_loose,hsl],by rw[hre];simp⟩,S.sub _ _,by omega⟩
   ·refine kE (xte (xte (xbe (xtn (kS ?_)))))
    have hi2:i=n:=by have:=of_decide_eq_false h8;omega
    subst hi2
    rw[Nat.sub_self]at hre S
    rw[qqD,List.append_nil]at S
    have hB:openB i turn s1=openC i turn fs s':=by
     rw[openB,hre,fieldW,if_pos rfl,List.append_nil]
    rw[hB]
    clear hB hre hopen
    subst hfs
    replace S:=S.rowToGl (some ⟨g,0,none⟩) fs (e:=129) (sz:=64) (n:=fs.length) (c:=fs.length) (fun _ _ _ _=>trivial)
    refine kR ?_;(iterate 2 (refine sq S ?_;clear S;intro a S));refine sa S ?_;clear S;intro b48 a w S;refine sq S ?_;clear S;intro a S;refine kN (xtn (kS (c_label (xtn (kS (kB ?_))))))
    replace S:=S.addNil 25 1
    replace S:=St.addE S (entI []) (fun x hx=>by cases hx) (fun k ⟨x,hx,_⟩=>by cases hx)
    refine c_fore5 S (fun(said:List LBy) (q:Option Addr) (e:Nat) (fin:Nat) (f:Nat) uu=>[(9,uu 9),(0,uu 10),(38,uu 49),(0,uu 50),(0,uu 51),(0,uu 52),(0,uu 53),(0,uu 54),(0,uu 55),(0,uu 56),(0,uu 57),(0,uu 58),(0,uu 59),(0,uu 60),(0,uu 61),(0,uu 62),(0,uu 63),(0,uu 64),(0,uu 65),(0,uu 66),(0,uu 67),(0,uu 68),(0,uu 69),(0,uu 70),(0,uu 71),(0,uu 72),(0,uu 73),(0,uu 74),(0,uu 75),(0,uu 76),(0,uu 77),(0,uu 78),(0,uu 79),(0,uu 80),(0,uu 81),(0,uu 82),(0,uu 83),(0,uu 84),(0,uu 85),(0,uu 86),(0,uu 87),(0,uu 88)]) (fun(said:List LBy) (q:Option Addr) (e:Nat) (fin:Nat) (f:Nat)=>[entI said,Wk.row 25 1 q said.length e (encL said),Wk.box b48 134 (cWal b q e ⟨fs.length,turn,said,fin,false⟩),dkI b m p' c' s']) (fun(said:List LBy) (q:Option Addr) (e:Nat) (fin:Nat) (f:Nat)=>[GlF (some ⟨g,0,none⟩) fs]) (fun(said:List LBy) (q:Option Addr) (e:Nat) (fin:Nat) (f:Nat)=>fin≤fs.length∧said.length≤fin∧fs.length≤fin+f∧readF turn fs fs.length 0 0=(said.map LBy.bs++(readF turn fs f fin said.length).1,(readF turn fs f fin said.length).2)) (fun(said:List LBy) (q:Option Addr) (e:Nat) (fin:Nat) (f:Nat)=>fs.length - fin) ([]) (none) (0) (0) (fs.length) ?_ S.uu ?_ ?_
    ·exact ⟨by omega,by simp,by omega,rfl⟩
    ·exact S.sub [entI [],Wk.row 25 1 none 0 0 [],Wk.box b48 134 [.pointer (some ⟨b,0,none⟩),.int .i64 (fs.length:Int),.int .u32 turn,.slice none 0 0,.int .i64 0,.bool false],dkI b m p' c' s'] [GlF (some ⟨g,0,none⟩) fs]
    ·clear S;rintro said q e fin f uu a w ⟨hf1,hf2,hf3,hrd⟩ S
     refine kB (kS ?_);refine c_drawD [(0,true),(1,true),(2,true),(3,true),(4,true),(5,true),(6,true),(7,true),(8,true),(9,true),(10,true),(11,true),(12,true),(13,true),(14,false),(15,true),(16,true),(17,true),(18,true),(19,true)] [] S ?_;clear S;intro w S;(iterate 14 (refine dq S ?_;clear S;intro a S));refine dl ?_
     refine snew S (stands_v b fs.length turn fs (some ⟨g,0,none⟩) fs.length fin said.length htr (by omega) (by omega) (by omega) (by omega) _ ((S.mem.fact (GlF (some ⟨g,0,none⟩) fs)).less fun _ _ h=>h.elim)) ?_;clear S;rintro _ a w - ⟨r,rfl,hrh,hrn,hrc⟩ hS -
     have S:=hS (entI r) hrh hrn
     clear hS
     refine de S ?_;(iterate 5 (refine dq S ?_;clear S;intro a S));refine dn (xtn (kS (kS ?_)))
     replace S:=St.entAdd S
     refine kR ?_;(iterate 2 (refine sq S ?_;clear S;intro a S));refine kN (xtn ?_)
     refine kC S (fun h16=>?_) (fun h16=>?_)
     ·refine kE (xte (xbx (xte (xbe (xtn (kS (kS ?_)))))))
      have hr0:r=[]∧standF turn fs fin (said.length:Nat)=none:=by
       rcases hrc with h | ⟨y,rfl,-⟩
       ·exact h
       ·exact absurd h16 (by simp)
      obtain ⟨rfl,hst⟩:=hr0
      rw[List.append_nil]at S
      rw[readF_none hst,List.append_nil]at hrd
      refine kR ?_;(iterate 6 (refine sq S ?_;clear S;intro a S));refine kN (xtn ?_)
      refine kC S (fun h19=>?_) (fun h19=>?_)
      ·refine kS (kR ?_);(iterate 2 (refine sq S ?_;clear S;intro a S));refine kN (xtn (kT (xtr (xsr ?_))))
       have h0:said=[]:=by simpa using h19
       subst h0
       have h1:=S.itNew (dkI b m p' c' s') rfl
       have hh:=S.it (dkI b m p' c' s')
       have hC:openC fs.length turn fs s'=(s',140,noOW):=by rw[openC,hrd];exact if_pos rfl
       refine end2 S (fun _=>.inl ?_)
       rw[hC]
       exact ⟨(by show (140:Int)≠0;decide),rfl,p',c',hh,h1⟩
      ·refine kK (xtn (kS (kS (kR ?_))));(iterate 2 (refine sq S ?_;clear S;intro a S))
       have hnl:said≠[]:=by simpa using h19
       have hap:¬(dkI b m p' c' s').foot b48:=fun hk=>St.apart2 S (Wk.box b48 134 (cWal b q e ⟨fs.length,turn,said,fin,false⟩)) (dkI b m p' c' s') b48 rfl hk
       refine sit (dkI b m p' c' s') S (clears_c b48 b m p' c' s' q e ⟨fs.length,turn,said,fin,false⟩ fs (some ⟨g,0,none⟩) fs.length _ (by show fs.length≤1000;omega) rfl hf1 htr (by rw[hsl,hl1];omega) (S.it (dkI b m p' c' s')) (BoxF.stable (S.boxF b48) hap) (S.lend (dkI b m p' c' s') (S.mem.fact (GlF (some ⟨g,0,none⟩) fs)))) rfl ?_;clear S;rintro _ a w ⟨rfl,p2,c2,hh,hn2⟩ hS
       have S:=hS (dkI b m p2 c2 (clrF (fromN fs.length turn) fin fs s').1) hh hn2
       clear hS
       refine sq S ?_;clear S;intro a S;refine kN (xtn (kS (kR ?_)));(iterate 2 (refine sq S ?_;clear S;intro a S));refine kN (xtn ?_)
       refine kC S (fun h22=>?_) (fun h22=>?_)
       ·refine kS (kR ?_);(iterate 3 (refine sq S ?_;clear S;intro a S));refine kN (xtn (kT (xtr (xsr ?_))))
        have he2:(clrF (fromN fs.length turn) fin fs s').2≠0:=by simpa using h22
        have h1:=S.itNew (dkI b m p2 c2 (clrF (fromN fs.length turn) fin fs s').1) rfl
        have hh:=S.it (dkI b m p2 c2 (clrF (fromN fs.length turn) fin fs s').1)
        have hC:openC fs.length turn fs s'=((clrF (fromN fs.length turn) fin fs s').1,(clrF (fromN fs.length turn) fin fs s').2,noOW):=by
         rw[openC,hrd];exact (if_neg (by simpa using hnl)).trans (if_neg he2)
        refine end2 S (fun _=>.inl ?_)
        rw[hC]
        exact ⟨he2,rfl,p2,c2,hh,h1⟩
       ·refine kK (xtn (kS (kR ?_)));(iterate 3 (refine sq S ?_;clear S;intro a S));refine kN (xtn (kT (xsr ?_)))
        have he2:(clrF (fromN fs.length turn) fin fs s').2=0:=by simpa using h22
        replace S:=S.sub [entI said,Wk.row 25 1 q said.length e (encL said),Wk.box b48 134 (cWal b q e ⟨fs.length,turn,said,fin,false⟩),dkI b m p2 c2 (clrF (fromN fs.length turn) fin fs s').1] []
        have S:=S.perm [Wk.box b48 134 (cWal b q e ⟨fs.length,turn,said,fin,false⟩),Wk.row 25 1 q said.length e (encL said),entI said,dkI b m p2 c2 (clrF (fromN fs.length turn) fin fs s').1] (((List.Perm.swap _ _ _).trans ((List.Perm.cons _ (List.Perm.swap _ _ _)))).trans (List.Perm.swap _ _ _))
        have hh:=St.hold4 S rfl rfl rfl rfl
        have h1:=St.new4 S rfl rfl rfl rfl
        have hC:openC fs.length turn fs s'=((clrF (fromN fs.length turn) fin fs s').1,0,⟨fs.length,turn,said.map LBy.bs,fin⟩):=by
         rw[openC,hrd];exact (if_neg (by simpa using hnl)).trans (if_pos he2)
        refine end2 S (fun _=>.inr ?_)
        rw[hC]
        exact ⟨rfl,b48,p2,c2,q,e,⟨fs.length,turn,said,fin,false⟩,rfl,⟨rfl,rfl,rfl,rfl,rfl⟩,hh,h1⟩
     ·refine kK (xtn (kS ?_))
      obtain ⟨y,rfl,hst⟩:∃ y,r=[y]∧standF turn fs fin (said.length:Nat)=some y.bs:=by
       rcases hrc with ⟨rfl,-⟩ | hy
       ·exact absurd h16 (by simp)
       ·exact hy
      rw[show ptV [y]=.slice y.p y.bs.length y.c from rfl]at S
      have hyl:=(stand_get hst).1
      have hye:=stand_len hst
      have hyp:=secN_pos y.bs.length
      refine kR ?_;(iterate 6 (refine sq S ?_;clear S;intro a S));refine sn S ?_;clear S;intro b75 a w S
      refine sap S (by show said.length+1≤_;simp only[maxLen];omega) (by show (said.length+1)*24≤_;omega) ?_;clear S;rintro p7 c7 a w - S
      rw[show encL said++[.slice y.p y.bs.length y.c]=encL (said++[y]) from by rw[encL_append];rfl,show said.length+1=(said++[y]).length from by simp]at S
      (iterate 2 (refine sq S ?_;clear S;intro a S));refine sw S ?_;clear S;intro a w S;refine kN (xtn ?_)
      refine c_drwe0 (.q 0 (.q 1 (.q 2 (.q 4 (.q 5 (.b2 3 6 (.l 6 (.q 7 (.q 8 (.q 9 (.l 10 (.e)))))) (.l 3 (.q 7 (.q 8 (.q 9 (.l 10 (.e)))))))))))) S (fun  uu=>[(0,.pointer (some ⟨b,0,none⟩)),(78,uu 79),(0,uu 80),(0,uu 81),(0,uu 82),(0,uu 83),(0,uu 84),(0,uu 85),(0,uu 86),(0,uu 87),(0,uu 88)]) [entI (said++[y]),Wk.row 25 1 p7 (said++[y]).length c7 (encL (said++[y])),dkI b m p' c' s'] ([entI (said++[y]),Wk.row 25 1 p7 (said++[y]).length c7 (encL (said++[y])),Wk.box b48 134 (cWal b p7 c7 ⟨fs.length,turn,said++[y],fin+secN y.bs.length,false⟩),dkI b m p' c' s']) ([GlF (some ⟨g,0,none⟩) fs]) (True) ?_ ?_
      ·intro w S
       (iterate 5 (refine tq S ?_;clear S;intro a S))
       refine tb2 ?_ ?_
       ·refine sq S ?_;clear S;intro a S;refine te S ?_;refine tl ?_;refine sr S (sectors_c (y.bs.length:Int) _) ?_;clear S;rintro _ a w rfl S
        rw[secF_nat _ hyl]at S
        refine te S ?_;refine tq S ?_;clear S;intro a S
        rw[show IntKind.i64.wrap ((fin:Int)+(secN y.bs.length:Int))=((fin+secN y.bs.length:Nat):Int) from by rw[w64 _ (by omega) (by omega)];rfl]at S
        (iterate 2 (refine tq S ?_;clear S;intro a S));refine tl (sw S ?_);clear S;intro a w S;refine te S ?_;refine tn ?_
        exact ⟨S.uu,trivial,S.sub _ _⟩
       ·refine sr S (sectors_c (y.bs.length:Int) _) ?_;clear S;rintro _ a w rfl S
        rw[secF_nat _ hyl]at S
        refine te S ?_;refine tl (sq S ?_);clear S;intro a S;refine te S ?_;refine tq S ?_;clear S;intro a S
        rw[show IntKind.i64.wrap ((fin:Int)+(secN y.bs.length:Int))=((fin+secN y.bs.length:Nat):Int) from by rw[w64 _ (by omega) (by omega)];rfl]at S
        (iterate 2 (refine tq S ?_;clear S;intro a S));refine tl (sw S ?_);clear S;intro a w S;refine te S ?_;refine tn ?_
        exact ⟨S.uu,trivial,S.sub _ _⟩
      clear S;rintro  uu a w - S;refine xbn (xtn ?_)
      obtain ⟨f',rfl⟩:∃ f',f=f'+1:=⟨f - 1,by omega⟩
      rw[readF,hst]at hrd
      exact ⟨said++[y],p7,c7,fin+secN y.bs.length,f',S.uu,⟨by omega,by simp;omega,by omega,by rw[hrd];simp⟩,S.sub _ _,by omega⟩
end Go.Proofs.YtdakncgafdnjfaaGreat
namespace Go.Wk
open Go
section
variable {P:Program} {r:Option Nat} {ops:Array Oper} {Q:Exit→Act→World→Prop} {w0:World} {M0:Nat→Prop} {ds:List Deferred} {a:Act} {w:World} {l:List Value} {bs bs':List Item} {fs:List (World→Prop)}
 {d:Option Nat} {ty:TypeId} {pos:String} {af:Array Edge} {rest:List Oper} {f:Nat} {x:Operand} {ts:Array TypeId} {e:Exit}
theorem sdefc {xs:List Operand} {fi ca vs:List Value} {l':List Value} [hx:Ev ⟨[],l⟩ x (.func (.func f) ⟨fi⟩ ⟨ca⟩)] [he:EvL ⟨[],l⟩ xs vs] [hp:PutO l d undef l'] (S:St w0 M0 ds a w l bs fs)
  (K:∀ a,St w0 M0 ({ target:=.fn (.func f) ⟨ca⟩,args:=(fi++vs).toArray }::ds) a w l' bs fs→WL P none ops Q rest a w) :
  WL P none ops Q (⟨d,.defer { callee:=.value x,args:=xs.toArray,argTypes:=ts },ty,pos,af,none⟩::rest) a w:=by
 refine wl_plain rfl ?_
 have hf:a.eval x=.func (.func f) ⟨fi⟩ ⟨ca⟩:=S.fr.ev
 have hev:xs.map a.eval=vs:=S.fr.evl
 rw[Oper.semAt_none]
 have:(execOp a.eval ⟨d,.defer { callee:=.value x,args:=xs.toArray,argTypes:=ts },ty,pos,af,none⟩).run P w=.ok (.defer { target:=.fn (.func f) ⟨ca⟩,args:=(fi++vs).toArray }) w:=by
  simp[execOp,resolve,hf,hev,Deferred.ofValue]
 rw[this]
 obtain ⟨t,dd⟩:=a
 have:=S.slots;simp at this;subst this
 have hd:=S.defers;simp at hd;subst hd
 show WL P none ops Q rest _ w
 rw[hp.eq]
 exact K _ ⟨rfl,rfl,S.wd⟩
theorem enterDI {fn:Func} {c:Code} {args:List Value} {l:List Value} {R:Ending→World→Prop} {M0:Nat→Prop} {bs:List Item} {fs:List (World→Prop)} {u:FrameMode}
  (hf:P.funcs[f]? = some fn) (hb:fn.body=some c) (hl:args++List.replicate (fn.ntmps - args.length) undef=l) (hw:Wd w M0 w bs fs)
  (h:∀ a,St w M0 [] a w l bs fs→Wp P none c (bodyPost P fn R) a w):CallsDIn (FW none) 0 P f args.toArray u w fun e u' w'=>u'=u∧R e w':=by
 refine callsDIn_of_wp hf hb trivial (h _ ⟨?_,rfl,hw⟩)
 simp[←hl]
variable {fn:Func} {R:Value→World→Prop}
theorem endD1 {r1:ResultVar} {v1:Value} [hr:FnRes fn [r1]] [h1:ResV P l bs r1 v1] (S:St w0 M0 [] a w l bs fs) (h:R v1 w) (he:e=.ret∨e=.normal:=by simp) :
  bodyPostDIn (FW none) 0 P fn (fun e w'=>∃ v,e=.returned v∧Agree M0 w0 w'∧R v w') e a w:=by
 have key:LeavesIn (FW none) 0 P fn a.tmps (fun e w'=>∃ v,e=.returned v∧Agree M0 w0 w'∧R v w') a.defers .returning w:=by
  rw[S.defers]
  refine ⟨v1,?_,v1,rfl,S.wd.agree,h⟩
  rw[S.slots,results_eq (rs:=[r1])]
  simp[run_res (P:=P) (l:=l) (bs:=bs) (rv:=r1) (v:=v1) w S.wd.held]
 rcases he with rfl | rfl <;> exact key
theorem endDef1 {g:Nat} {ca vs:List Value} (x y:Item) [hri:ReplI bs x y bs'] [oy:ItOk y] [he:EntF P g] {r1:ResultVar} {v1:Value} [hr:FnRes fn [r1]] [h1:ResV P l bs' r1 v1]
  (S:St w0 M0 [{ target:=.fn (.func g) ⟨ca⟩,args:=vs.toArray }] a w l bs fs) (hxo:x.own=true)
  (hc:CallsDIn (FW none) 0 P g (vs++ca).toArray .returning w fun e u' w'=>u'=.returning∧∃ v,e=.returned v∧Agree x.foot w w'∧y.holds w')
  (hf:∀ k,y.foot k→x.foot k) (h:∀ w',Wd w0 M0 w' bs' fs→R v1 w') (hx:e=.ret∨e=.normal:=by simp) :
  bodyPostDIn (FW none) 0 P fn (fun e w'=>∃ v,e=.returned v∧Agree M0 w0 w'∧R v w') e a w:=by
 have key:LeavesIn (FW none) 0 P fn a.tmps (fun e w'=>∃ v,e=.returned v∧Agree M0 w0 w'∧R v w') a.defers .returning w:=by
  rw[S.defers]
  refine leavesIn_cons (f:=g) (args:=(vs++ca).toArray) (by simp) (fun h=>by cases h) ?_ (fun _ _=>trivial) (hc.mono ?_)
  ·have:=he.run (vs++ca).toArray w
   simpa [invoke] using this
  ·rintro e u' w' ⟨rfl,v,rfl,hag,hy⟩
   have hwd:Wd w0 M0 w' bs' fs:=by
    obtain ⟨pre,post,q1,q2⟩:=hri.ex
    have hwd:=S.wd
    rw[q1]at hwd
    rw[q2]
    exact hwd.swap hxo hag hy (fun k hk=>.inl (hf k hk)) (oy.lt w' hy) oy.loc
   refine ⟨v1,?_,v1,rfl,hwd.agree,h w' hwd⟩
   rw[S.slots,results_eq (rs:=[r1])]
   simp[run_res (P:=P) (l:=l) (bs:=bs') (rv:=r1) (v:=v1) w' hwd.held]
 rcases hx with rfl | rfl <;> exact key
end
section
variable {P:Program} {ops:Array Oper} {md:Region.Mode} {C:World→Prop}
def ACL (last:Nat) (P:Program) (ops:Array Oper) (C:World→Prop) (R:Act→World→Prop):Nat→Array Bool→Act→World→Prop
 | 0,listed,a,w=>Region.ready .any ops listed=[]∧R a w
 | fuel+1,listed,a,w=>
  (Region.ready .any ops listed=[]→R a w)∧
  ∀ i∈Region.ready .any ops listed,WN P ops i (fun a' w'=>(i≠last→C w')∧ACL last P ops C R fuel (listed.setIfInBounds i true) a' w') a w
variable {R:Act→World→Prop}
theorem acl_first {last i:Nat} {oi:Oper} {v:Value} (hi:ops[i]? = some oi) (hsel:∀ (j:Nat) (o:Oper) cs b,ops[j]? = some o→o.op≠.select cs b) :
  (i≠last∧∀ o,ops[last]? = some o→∃ e∈o.after,Region.binds .any e=true∧e.on=i)→∀ (fuel:Nat) (listed:Array Bool) (a:Act) (w:World),
   (∀ j oj,ops[j]? = some oj→j≠i→listed.getD j true=false→(∀ e∈oj.after,Region.binds .any e=true→e.on≠i)→oi.apart ops oj=true)→
   i∈Region.ready .any ops listed→YieldsC P ops C oi v a→C w→
   ACL last P ops C R fuel (listed.setIfInBounds i true) (a.put oi.dst v) w→ACL last P ops C R (fuel+1) listed a w:=by
 intro hlast fuel
 induction fuel with
 | zero=>
  intro listed a w _ hr hy hS H
  refine ⟨fun h=>(by rw[h]at hr;cases hr),fun j hj=>?_⟩
  by_cases hji:j=i
  ·subst hji;exact hy.wn hi hS ⟨fun _=>hS,H⟩
  ·have:=ready_mono hj hji
   rw[H.1]at this
   cases this
 | succ fuel ih=>
  intro listed a w hfree hr hy hS H
  refine ⟨fun h=>(by rw[h]at hr;cases hr),fun j hj=>?_⟩
  by_cases hji:j=i
  ·subst hji;exact hy.wn hi hS ⟨fun _=>hS,H⟩
  ·have h1:=H.2 j (ready_mono hj hji)
   obtain ⟨hjun,oj,hoj,hall⟩:=mem_ready.1 hj
   have hnot:∀ e∈oj.after,Region.binds .any e=true→e.on≠i:=fun e he hb heq=>by
    have h1:=hall e he hb
    have h0:=(mem_ready.1 hr).1
    rw[heq]at h1
    rcases Nat.lt_or_ge i listed.size with h' | h'
    ·simp[h']at h0 h1;rw[h0]at h1;cases h1
    ·simp[Array.getElem?_eq_none h']at h1
   have hjl:j≠last:=fun e=>by
    obtain ⟨e',he',hb',ho'⟩:=hlast.2 oj (e▸hoj)
    exact hnot e' he' hb' ho'
   have h2:=wn_put hoj (hfree j oj hoj hji hjun hnot) (fun cs b=>hsel i oi cs b hi) (fun cs b=>hsel j oj cs b hoj) hy h1
   have hfree':∀ k ok,ops[k]? = some ok→k≠i→(listed.setIfInBounds j true).getD k true=false→
     (∀ e∈ok.after,Region.binds .any e=true→e.on≠i)→oi.apart ops ok=true:=fun k ok hk hki hun hno=>by
    refine hfree k ok hk hki ?_ hno
    by_cases hjk:j=k
    ·subst hjk;exact hjun
    ·rw[getD_set_ne true hjk]at hun;exact hun
   refine wpOpIn_mono (fun a' w' h3=>⟨h3.2.1,ih (listed.setIfInBounds j true) a' w' hfree' (ready_mono hr (Ne.symm hji)) h3.1 (h3.2.1 hjl) ?_⟩) h2
   rw[Array.setIfInBounds_comm _ _ hji]
   exact h3.2.2
variable {r:Option Nat} {Q:Exit→Act→World→Prop} {w0:World} {M0:Nat→Prop} {ds:List Deferred} {a:Act} {w:World} {l l':List Value} {bs bs' bs0:List Item} {fs fs0:List (World→Prop)}
 {d:Option Nat} {op:Op} {ty:TypeId} {pos:String} {af:Array Edge} {rest:List Oper} {v v' G:Value} {j g:Nat} {pol:Bool} {cs:List Bool} {n:Nat} {listed:Array Bool}
def feeds (ops:Array Oper) (last i:Nat):Bool:=(!Nat.beq i last)&&(match ops[last]? with | some o=>o.after.toList.any fun e=>Region.binds .any e&&Nat.beq e.on i | none=>false)
theorem feeds_spec {ops:Array Oper} {last i:Nat} (h:feeds ops last i=true):i≠last∧∀ o,ops[last]? = some o→∃ e∈o.after,Region.binds .any e=true∧e.on=i:=by
 simp only[feeds,Bool.and_eq_true,Bool.not_eq_true']at h
 refine ⟨fun e=>(by rw[e,Nat.beq_refl]at h;cases h.1),fun o ho=>?_⟩
 rw[ho]at h
 obtain ⟨e,he,h2⟩:=List.any_eq_true.1 h.2
 simp only[Bool.and_eq_true]at h2
 exact ⟨e,by simpa using he,h2.1,Nat.eq_of_beq_eq_true h2.2⟩
def flowFromL (last:Nat) (ops:Array Oper):List (Nat × Bool)→Array Bool→Bool
 | [],listed=>(Region.ready .any ops listed).isEmpty
 | (i,true)::ord,listed=>(((Region.ready .any ops listed).contains i&&Region.free .any ops listed i)&&feeds ops last i)&&flowFromL last ops ord (listed.setIfInBounds i true)
 | (i,false)::ord,listed=>(match Region.ready .any ops listed with | [j]=>Nat.beq j i | _=>false)&&flowFromL last ops ord (listed.setIfInBounds i true)
def AQL (last:Nat) (P:Program) (ops:Array Oper) (C:World→Prop) (R:Act→World→Prop) (ord:List (Nat × Bool)) (a:Act) (w:World):Prop:=
 ∀ listed,Region.noSelect ops=true→flowFromL last ops ord listed=true→ACL last P ops C R ord.length listed a w
variable {ord:List (Nat × Bool)} {i last:Nat}
theorem dqL (S:St w0 M0 ds a w l bs fs) [hb:SubL bs0 bs] [hf:SubL fs0 fs] [ho:OpAt ops i ⟨d,op,ty,pos,af,none⟩] [hq:OpQ P op ty ⟨[],l⟩ bs0 fs0 v] [hp:PutO l d v l']
  (K:∀ a,St w0 M0 ds a w l' bs fs→AQL last P ops (fun w=>Wd w0 M0 w bs0 fs0) R ord a w) :
  AQL last P ops (fun w=>Wd w0 M0 w bs0 fs0) R ((i,true)::ord) a w:=by
 intro listed hs hflow
 simp only[flowFromL,Bool.and_eq_true]at hflow
 refine acl_first ho.eq (Region.noSelect_spec hs) (feeds_spec hflow.1.2) _ listed a w (Region.free_spec ho.eq hflow.1.1.2) (by simpa using hflow.1.1.1) (v:=v) (.inl ⟨rfl,fun w' hw'=>?_⟩) (S.wd.sub hb.sub hf.sub) (K _ S.put _ hs hflow.2)
 rw[execOp_eq]
 exact hq.run a.eval w' S.fr hw'.mem
theorem dlL {o:Oper} {C:World→Prop} [ho:OpAt ops i o] (h:WL P none ops (fun e a' w'=>e=.normal∧(i≠last→C w')∧AQL last P ops C R ord a' w') [o] a w):AQL last P ops C R ((i,false)::ord) a w:=by
 intro listed hs hflow
 simp only[flowFromL,Bool.and_eq_true]at hflow
 have hr:Region.ready .any ops listed=[i]:=by
  have:=hflow.1
  split at this
  ·rename_i k hk;rw[hk,Nat.eq_of_beq_eq_true this]
  ·cases this
 refine ⟨fun h0=>(by rw[h0]at hr;cases hr),fun k hk=>?_⟩
 rw[hr]at hk
 obtain rfl:k=i:=by simpa using hk
 unfold WN wpOpIn
 simp only[ho.eq]
 simp only[WL,wpListIn]at h
 split
 ·rename_i hw
  rw[if_pos hw]at h
  refine ⟨fun _ _=>trivial,?_⟩
  have h:=h.2
  generalize (o.semAt (FW none).round a.eval).run P w=q at *
  cases q with
  | ok x w'=>
   cases x <;> simp only[Oper.uponIn]at h⊢
   case value u=>exact ⟨h.2.1,h.2.2 _ hs hflow.2⟩
   case skip=>exact ⟨h.2.1,h.2.2 _ hs hflow.2⟩
   case defer d=>exact ⟨h.2.1,h.2.2 _ hs hflow.2⟩
   case enter f args=>
    refine ⟨h.1,CallsIn.mono h.2 fun e w'' he=>?_⟩
    cases e with
    | returned u=>exact ⟨he.2.1,he.2.2 _ hs hflow.2⟩
    | panicked c=>exact absurd he.1 (by simp)
    | outgrown=>obtain ⟨_,_,he,_⟩:=he;exact absurd he (by simp)
   case row row args=>exact ⟨h.1,RowsIn.mono h.2 fun u w'' he=>⟨he.2.1,he.2.2 _ hs hflow.2⟩⟩
   case round l f tmps assign body=>
    refine ⟨h.1,RoundIn.mono h.2 fun e w'' he=>?_⟩
    cases e with
    | returned u=>exact ⟨he.2.1,he.2.2 _ hs hflow.2⟩
    | panicked c=>exact absurd he.1 (by simp)
    | outgrown=>obtain ⟨_,_,he,_⟩:=he;exact absurd he (by simp)
  | halt x w'=>
   cases x <;> simp only[Oper.uponIn]at h⊢
   case panic u=>exact absurd h.1 (by simp)
 ·rename_i hw
  rw[if_neg hw]at h
  exact ⟨fun _ _=>trivial,h.2.2.1,h.2.2.2 _ hs hflow.2⟩
theorem deL [hb:SubL bs0 bs] [hf:SubL fs0 fs] (S:St w0 M0 ds a w l bs fs) (h:AQL last P ops (fun w=>Wd w0 M0 w bs0 fs0) R ord a w):WL P none ops (fun e a' w'=>e=.normal∧(i≠last→Wd w0 M0 w' bs0 fs0)∧AQL last P ops (fun w=>Wd w0 M0 w bs0 fs0) R ord a' w') [] a w:=
 kN ⟨rfl,fun _=>S.wd.sub hb.sub hf.sub,h⟩
theorem dzL {C:World→Prop} (h:R a w) (hr:∀ listed,Region.noSelect ops=true→flowFromL last ops [] listed=true→Region.ready .any ops listed=[]:=by intro listed _ h;simpa [flowFromL] using h):WL P none ops (fun e a' w'=>e=.normal∧(last≠last→C w')∧AQL last P ops C R [] a' w') [] a w:=
 kN ⟨rfl,fun h=>absurd rfl h,fun listed hs hf=>⟨hr listed hs hf,h⟩⟩
theorem any_of_acl (hd:∀ (i:Nat) o,ops[i]? = some o→isDefer o.op=false):∀ (fuel:Nat) (listed:Array Bool) (a:Act) (w:World),ACL last P ops C (fun a w=>Q .normal a w) fuel listed a w→wpAnyIn (FW r) 0 P .any ops Q fuel listed a w
 | 0,_,_,_,h=>h
 | fuel+1,_,_,_,h=>⟨h.1,fun i hi=>wn_round hd (wpOpIn_mono (fun a' w' h'=>any_of_acl hd fuel _ a' w' h'.2) (h.2 i hi))⟩
theorem c_drawL {id:Nat} {lo:List Oper} (last:Nat) (ord:List (Nat × Bool)) (bs0:List Item) (S:St w0 M0 ds a w l bs fs) (h:∀ w,St w0 M0 ds a w l bs fs→AQL last P lo.toArray (fun w=>Wd w0 M0 w bs0 fs) (fun a w=>Q .normal a w) ord a w)
  (hm:P.follows .mixedOrders=true:=by kernel_rfl) (hd:((lo.all fun o=>!isDefer o.op)&&(Nat.beq ord.length lo.length&&(Region.noSelect lo.toArray&&flowFromL last lo.toArray ord (Array.replicate lo.length false))))=true:=by kernel_rfl):Wp P r (.region id lo.toArray true) Q a w:=by
 simp only[Bool.and_eq_true]at hd
 refine wpIn_region_any hm (any_of_acl (last:=last) (C:=fun w=>Wd w0 M0 w bs0 fs) (fun i o ho=>?_) _ _ _ _ ?_)
 have:=List.all_eq_true.1 hd.1 o (by
  rw[List.getElem?_toArray]at ho
  exact List.mem_of_getElem? ho)
 simpa using this
 have:=h { w with drawn:=w.drawn+1 } ⟨S.slots,S.defers,S.wd.step (Agree.drawn _ w _)⟩ _ hd.2.2.1 hd.2.2.2
 rw[Nat.eq_of_beq_eq_true hd.2.1]at this
 simpa using this
end
end Go.Wk
namespace Go.Proofs.YtdakncgafdnjfaaGreat
open Go Go.Wk
set_option synthInstance.maxSize 100000
set_option synthInstance.maxHeartbeats 400000
set_option maxRecDepth 100000
theorem breaks_d (g r b:Nat) (q:Option Addr) (e:Nat) (x:WS) (v:Int) (u:FrameMode) (w0:World) (hb:(Wk.box g 134 (cWal b q e x)).holds w0) (hr:Stable (fun k=>k=g) w0 (BoxF r 26 [.int .i64 v])) :
  CallsDIn (FW none) 0 Tryz.prog 79 [.pointer (some ⟨g,0,none⟩),.pointer (some ⟨r,0,none⟩)].toArray u w0 fun e' u' w'=>u'=u∧∃ v',e'=.returned v'∧Agree (fun k=>k=g) w0 w'∧(Wk.box g 134 (cWal b q e (brkF x v))).holds w':=by
 refine enterDI Tryz.func79 rfl rfl (Wd.itLent (x:=Wk.box g 134 (cWal b q e x)) (fs:=[BoxF r 26 [.int .i64 v]]) hb (by intro Φ hΦ;obtain rfl:=List.mem_singleton.1 hΦ;exact hr)) (fun a S=>?_)
 simp only[Tryz.ntmps79,qqA,qqB,Nat.reduceAdd,Nat.reduceSub,qqC,qqD,qqE,qqF]at S
 refine kS (kR ?_);(iterate 4 (refine sq S ?_;clear S;intro a S));refine kN (xtn ?_)
 refine kC S (fun h0=>?_) (fun h0=>?_)
 refine kR ?_;(iterate 3 (refine sq S ?_;clear S;intro a S));refine sw S ?_;clear S;intro a w S;refine kN ?_
 have h:v≠0:=by simpa using h0
 have hh:=S.box g
 refine end0 (R:=fun _ w'=>(Wk.box g 134 (cWal b q e (brkF x v))).holds w') S (fun _=>?_)
 rw[show brkF x v = { x with broken:=true } from by simp[brkF,h]]
 exact hh
 refine kK ?_
 have h:v=0:=by simpa using h0
 have hh:=S.box g
 refine end0 (R:=fun _ w'=>(Wk.box g 134 (cWal b q e (brkF x v))).holds w') S (fun _=>?_)
 rw[show brkF x v=x from by simp[brkF,h]]
 exact hh
section
variable {w0:World} {M0:Nat→Prop} {ds:List Deferred} {a:Act} {w:World} {l:List Value} {bs bs':List Wk.Item} {fs:List (World→Prop)}
theorem St.entGl {x:Wk.Item} {ys:List LBy} (S:St w0 M0 ds a w l bs fs) (hap:∀ k,(entI ys).foot k→¬x.foot k) [HasIt bs (entI ys)] {y:LBy} (hy:y∈ys):Stable x.foot w (GlF y.p y.bs):=by
 have h:=(S.it (entI ys)) y hy
 exact fun w' ha=>gl_loc (fun ad hp=>ha.blk (h.1 ad hp) (hap ad.block ⟨y,hy,ad,hp,rfl⟩)) h.2
theorem ent_row {y:LBy} {e:TypeId} (h:(Wk.row e 1 y.p y.bs.length y.c (encL y.bs)).holds w):(entI [y]).holds w:=fun x hx=>by
 obtain rfl:=List.mem_singleton.1 hx
 exact ⟨fun ad hp=>row_foot_lt h ad.block ⟨ad,hp,rfl⟩,(gl_own (M:=fun _=>False) h (fun _ _ _ _=>trivial) (fun _ _ h=>h)).now⟩
theorem St.rowEnt (S:St w0 M0 ds a w l bs fs) (y:LBy) {e:TypeId} [hr:ReplI bs (Wk.row e 1 y.p y.bs.length y.c (encL y.bs)) (entI [y]) bs'] (h:(Wk.row e 1 y.p y.bs.length y.c (encL y.bs)).holds w):St w0 M0 ds a w l bs' fs:=
 St.become S (Wk.row e 1 y.p y.bs.length y.c (encL y.bs)) (entI [y]) h ent_row (fun k ⟨x,hx,ad,hp,hk⟩=>by obtain rfl:=List.mem_singleton.1 hx;exact ⟨ad,hp,hk.symm⟩)
theorem St.ofWd {w0:World} {M0:Nat→Prop} {w:World} {bs:List Wk.Item} {fs:List (World→Prop)} (h:Wd w0 M0 w bs fs):St w0 M0 [] ⟨#[],[]⟩ w [] bs fs:=⟨rfl,rfl,h⟩
end
def roomF (x:WS) (bs:List UInt8):Int:=if refF x bs=0 then (if x.n - x.fin < secN bs.length then 6 else 0) else refF x bs
theorem refF_zero {x:WS} {bs:List UInt8} (h:refF x bs=0):bs.length≤40000∧x.broken=false:=by
 unfold refF at h
 split at h
 cases h
 split at h
 cases h
 exact ⟨by omega,by rename_i h2;simpa using h2⟩
def appS (x:WS) (y:LBy) (r:Int):WS:=if r=0 then { x with said:=x.said++[y],fin:=x.fin+secN y.bs.length } else { x with broken:=true }
theorem append_c (g b m:Nat) (p:Option Addr) (c:Nat) (s:DS) (q:Option Addr) (e:Nat) (x:WS) (y:LBy) (w0:World) (hn:x.n≤1000) (hfi:x.fin≤x.n) (hsl:x.said.length≤1000000∧x.said.length≤e) (hs0:0 < x.said.length) (ht:0≤x.turn∧x.turn≤4294967295) (hyl:y.bs.length≤10000000) (hl:s.loose.length≤980000)
  (hd:(both (dkI b m p c s) (walI g b q e x)).holds w0) (f0:Stable (both (dkI b m p c s) (walI g b q e x)).foot w0 (GlF y.p y.bs)) :
  Ret Tryz.prog 20 [.pointer (some ⟨g,0,none⟩),.slice y.p y.bs.length y.c] w0 (both (dkI b m p c s) (walI g b q e x)).foot fun v w'=>
   (roomF x y.bs≠0∧v=.int .i64 (roomF x y.bs)∧(both (dkI b m p c s) (walI g b q e x)).holds w')∨
   (roomF x y.bs=0∧v=.int .i64 (layF s ((fromN x.n x.turn+x.fin:Nat):Int) (leavesF x.turn (x.said.length:Int) y.bs)).2∧∃ p' c' q' e',∃ y':LBy,y'.bs=y.bs∧(x.said.length≤e')∧
    (both (dkI b m p' c' (layF s ((fromN x.n x.turn+x.fin:Nat):Int) (leavesF x.turn (x.said.length:Int) y.bs)).1) (walI g b q' e' (appS x y' (layF s ((fromN x.n x.turn+x.fin:Nat):Int) (leavesF x.turn (x.said.length:Int) y.bs)).2))).holds w'∧
    ∀ k,(both (dkI b m p' c' (layF s ((fromN x.n x.turn+x.fin:Nat):Int) (leavesF x.turn (x.said.length:Int) y.bs)).1) (walI g b q' e' (appS x y' (layF s ((fromN x.n x.turn+x.fin:Nat):Int) (leavesF x.turn (x.said.length:Int) y.bs)).2))).foot k→(both (dkI b m p c s) (walI g b q e x)).foot k∨w0.heap.size≤k):=by
 have hfr:fromN x.n x.turn≤1002:=by
  unfold fromN
  rcases (show (x.turn % 2).toNat=0∨(x.turn % 2).toNat=1 by omega) with h | h <;> rw[h] <;> omega
 refine enterD Tryz.func20 rfl rfl (Wd.it2Lent (x:=dkI b m p c s) (y:=walI g b q e x) (fs:=[GlF y.p y.bs]) hd rfl rfl (by intro Φ hΦ;obtain rfl:=List.mem_singleton.1 hΦ;exact f0)) (fun a S=>?_)
 simp only[Tryz.ntmps20,qqA,qqB,Nat.reduceAdd,Nat.reduceSub,qqC,qqD,qqE,qqF]at S
 replace S:=S.front (walI g b q e x)
 replace S:=St.open3 S
 refine kS (kR ?_);refine sa S ?_;clear S;intro b4 a w S;refine kN (xtn (kS (kS (kR ?_))));(iterate 2 (refine sq S ?_;clear S;intro a S))
 refine sr S (refuses_c g b q e x y _ (BoxF.stable (S.boxF g) (fun h=>h))) ?_;clear S;rintro _ a w rfl S
 refine sq S ?_;clear S;intro a S;refine kN (xtn (kS (kR ?_)));(iterate 2 (refine sq S ?_;clear S;intro a S));refine kN (xtn ?_)
 refine kC S (fun h2=>?_) (fun h2=>?_)
 ·refine kS (kR (sq S ?_));clear S;intro a S;refine sw S ?_;clear S;intro a w S;refine kN (xtn (kT (xtr ?_)))
  have he:refF x y.bs≠0:=by simpa using h2
  have hR:roomF x y.bs=refF x y.bs:=by rw[roomF,if_neg he]
  have hh:=St.hold4 (S.sub [Wk.box g 134 (cWal b q e x),Wk.row 25 1 q x.said.length e (encL x.said),entI x.said,dkI b m p c s] []) rfl rfl rfl rfl
  refine endD1 S (.inl ?_)
  rw[hR]
  exact ⟨he,rfl,hh⟩
 ·refine kK (xtn (kS ?_))
  have he:refF x y.bs=0:=by simpa using h2
  obtain ⟨hy4,hbk⟩:=refF_zero he
  refine kR ?_;(iterate 2 (refine sq S ?_;clear S;intro a S));refine sr S (sectors_c (y.bs.length:Int) _) ?_;clear S;rintro _ a w rfl S
  rw[secF_nat _ hy4]at S
  refine sq S ?_;clear S;intro a S;refine kN (xtn (kS (kS ?_)));refine c_drawD [(0,true),(1,true),(2,true),(3,true),(4,true),(5,true),(6,true),(7,true),(8,true),(9,true),(10,true),(11,true)] [] S ?_;clear S;intro w S;(iterate 12 (refine dq S ?_;clear S;intro a S));refine dn (xtn ?_)
  refine kC S (fun h5=>?_) (fun h5=>?_)
  ·refine kS (kR (sw S ?_));clear S;intro a w S;refine kN (xtn (kT (xtr ?_)))
   have hro:x.n - x.fin < secN y.bs.length:=by
    have:=of_decide_eq_true h5
    rw[w64 _ (by omega) (by omega)]at this;omega
   have hR:roomF x y.bs=6:=by rw[roomF,if_pos he,if_pos hro]
   have hh:=St.hold4 (S.sub [Wk.box g 134 (cWal b q e x),Wk.row 25 1 q x.said.length e (encL x.said),entI x.said,dkI b m p c s] []) rfl rfl rfl rfl
   refine endD1 S (.inl ?_)
   rw[hR]
   exact ⟨by decide,rfl,hh⟩
  ·refine kK (xtn (kS ?_))
   have hro:¬x.n - x.fin < secN y.bs.length:=by
    have:=of_decide_eq_false h5
    rw[w64 _ (by omega) (by omega)]at this;omega
   refine kR (sq S ?_);clear S;intro a S;refine sdefc S ?_;clear S;intro a S;refine kN (xtn (kS (kR (sq S ?_))));clear S;intro a S
   replace S:=S.addNil 5 1
   refine sap S (by simp only[maxLen];omega) (by omega) ?_;clear S;rintro p8 c8 a w - S
   rw[show ([]:List Value)++encL y.bs=encL y.bs from rfl,Nat.zero_add]at S
   have hc8:=own_le (S.row p8 y.bs.length)
   replace S:=St.rowEnt S ⟨p8,c8,y.bs⟩ (S.row p8 y.bs.length)
   obtain ⟨y',hy'⟩:∃ y':LBy,y'=⟨p8,c8,y.bs⟩:=⟨_,rfl⟩
   rw[←hy']at S
   obtain ⟨R,hR⟩:∃ R,R=layF s ((fromN x.n x.turn+x.fin:Nat):Int) (leavesF x.turn (x.said.length:Int) y.bs):=⟨_,rfl⟩
   have hro0:roomF x y.bs=0:=by rw[roomF,if_pos he,if_neg hro]
   have hll:(leavesF x.turn (x.said.length:Int) y.bs).length≤834:=by rw[leavesF_len];exact secN_le _ hy4
   refine sq S ?_;clear S;intro a S;refine kN (xtn (kS (kS ?_)));refine c_drawL 29 [(0,true),(1,true),(2,true),(3,true),(4,true),(5,true),(6,true),(7,true),(8,true),(10,true),(11,true),(12,true),(13,true),(15,true),(16,true),(17,true),(18,true),(19,true),(20,true),(21,true),(22,true),(23,true),(24,true),(25,true),(26,true),(9,false),(14,true),(27,false),(28,false),(29,false)] [Wk.box g 134 (cWal b q e x)] S ?_;clear S;intro w S;(iterate 24 (refine dqL S ?_;clear S;intro a S))
   rw[wu32 (x.said.length:Int) (by omega) (by omega)]at S
   refine dqL S ?_;clear S;intro a S;refine dlL ?_;refine sr S (from_c b x.n x.turn hn ht _) ?_;clear S;rintro _ a w rfl S;refine deL S ?_;refine dqL S ?_;clear S;intro a S
   rw[show IntKind.i64.wrap ((fromN x.n x.turn:Int)+(x.fin:Int))=((fromN x.n x.turn+x.fin:Nat):Int) from by rw[w64 _ (by omega) (by omega)];rfl]at S
   refine dlL ?_
   have hlt:=foots_lt S
   refine sr S (leaves_f x.turn (x.said.length:Int) p8 y.bs.length c8 _) ?_;clear S;rintro _ a w ⟨h0,h1,h2',rfl,⟨n0,n1,n2⟩,e0,e1,e2⟩ S
   replace S:=S.add (Φ:=BoxF h0 25 [.slice p8 y.bs.length c8]) (BoxF.stable e0 (fun hm=>by have:=hlt _ hm;omega))
   replace S:=S.add (Φ:=BoxF h1 130 [.int .u32 x.turn]) (BoxF.stable e1 (fun hm=>by have:=hlt _ hm;omega))
   replace S:=S.add (Φ:=BoxF h2' 130 [.int .u32 (x.said.length:Int)]) (BoxF.stable e2 (fun hm=>by have:=hlt _ hm;omega))
   refine deL S ?_;refine dlL ?_
   have hgl:Stable (dkI b m p c s).foot w (GlF y'.p y'.bs):=St.entGl S (fun k hk hk2=>St.apart2 S (entI [y']) (dkI b m p c s) k hk hk2) (by simp)
   rw[hy']at hgl
   refine sit (dkI b m p c s) S (lay_c 177 [.pointer (some ⟨h0,0,none⟩),.pointer (some ⟨h1,0,none⟩),.pointer (some ⟨h2',0,none⟩)] (leavesF x.turn (x.said.length:Int) y.bs) b m p c s (fromN x.n x.turn+x.fin) [GlF p8 y.bs,BoxF h2' 130 [.int .u32 (x.said.length:Int)],BoxF h1 130 [.int .u32 x.turn],BoxF h0 25 [.slice p8 y.bs.length c8]] _ (by omega) (by omega) (S.it (dkI b m p c s)) (fun Φ hΦ=>by
    rcases List.mem_cons.1 hΦ with rfl | hΦ
    ·exact hgl
    ·exact S.lend (dkI b m p c s) (S.wd.facts Φ (List.mem_append_left _ hΦ))) (fun M w1 hM hF=>leaves_it x.turn (x.said.length:Int) ht (by omega) h0 h1 h2' y.bs p8 c8 hy4 hc8 w1 M hM (hF _ (by simp)) (hF _ (by simp)) (hF _ (by simp)) (hF _ (by simp)))) rfl ?_;clear S hgl;rintro _ a w ⟨rfl,p2,c2,hh,hn2⟩ hS
   have S:=hS (dkI b m p2 c2 (layF s ((fromN x.n x.turn+x.fin:Nat):Int) (leavesF x.turn (x.said.length:Int) y.bs)).1) hh hn2
   clear hS
   rw[←hR]at S
   refine deL S ?_;refine dlL (sw S ?_);clear S;intro a w S;refine dzL (xtn (kS (kR ?_)));(iterate 2 (refine sq S ?_;clear S;intro a S));refine kN (xtn ?_)
   refine kC S (fun h10=>?_) (fun h10=>?_)
   ·refine kS ?_
    have hR2:R.2=0:=of_decide_eq_true h10
    obtain ⟨gq,cur,hq,-⟩:=own_cells (S.row q x.said.length) hs0
    have hLe:LeC x.said.length e:=⟨hsl.2⟩
    have hLl:LeC x.said.length x.said.length:=⟨Nat.le_refl _⟩
    have hL0:LeC 0 x.said.length:=⟨Nat.zero_le _⟩
    subst hq
    refine c_drawL 21 [(0,true),(1,true),(2,true),(3,true),(4,true),(5,true),(6,true),(7,true),(8,true),(9,true),(10,true),(11,true),(12,true),(13,true),(14,true),(15,true),(16,true),(17,false),(18,false),(19,false),(20,true),(21,false)] [Wk.box g 134 (cWal b (some ⟨gq,0,none⟩) e x)] S ?_;clear S;intro w S
    (iterate 17 (refine dqL S ?_;clear S;intro a S));refine dlL (sn S ?_);clear S;intro b80 a w S;refine deL S ?_;refine dlL ?_
    have hrow:=S.row (some ⟨gq,0,none⟩) x.said.length
    refine sapG ⟨gq,0,none⟩ x.said.length (encL x.said) S (by rw[encL_len];rfl) (fun j u hj=>(own_sl hrow).2 _ rfl j u hj) (by omega) (by simp only[maxLen];omega) (by omega) ?_
    clear S;intro g2 c2' a w S
    rw[show encL x.said++[.slice p8 y.bs.length c8]=encL (x.said++[y']) from by rw[hy',encL_append];rfl]at S
    refine deL S ?_;refine dlL (sq S ?_);clear S;intro a S;refine deL S ?_;refine dqL S ?_;clear S;intro a S;refine dlL (sw S ?_);clear S;intro a w S;refine dzL (xtn (kR ?_));(iterate 6 (refine sq S ?_;clear S;intro a S))
    rw[show IntKind.i64.wrap ((x.fin:Int)+(secN y.bs.length:Int))=((x.fin+secN y.bs.length:Nat):Int) from by rw[w64 _ (by omega) (by omega)];rfl]at S
    (iterate 2 (refine sq S ?_;clear S;intro a S));refine sw S ?_;clear S;intro a w S;refine kN (xtn (kS (kR (sq S ?_))));clear S;intro a S;refine sw S ?_;clear S;intro a w S;refine kN (xtn (kT ?_))
    obtain ⟨x',hx'⟩:∃ x':WS,x' = { x with said:=x.said++[y'],fin:=x.fin+secN y.bs.length }:=⟨_,rfl⟩
    have hya:y'.bs=y.bs:=by rw[hy']
    have hap:appS x y' R.2=x':=by rw[appS,if_pos hR2,hx',hya]
    have hbr:brkF x' R.2=x':=by rw[brkF,hR2];simp
    replace S:=S.sub [Wk.row 25 1 (some ⟨g2,0,none⟩) (x.said.length+1) c2' (encL (x.said++[y'])),entI [y'],Wk.box b4 26 [.int .i64 R.2],Wk.box g 134 [.pointer (some ⟨b,0,none⟩),.int .i64 (x.n:Int),.int .u32 x.turn,.slice (some ⟨g2,0,none⟩) (x.said.length+1) c2',.int .i64 ((x.fin+secN y.bs.length:Nat):Int),.bool x.broken],entI x.said,dkI b m p2 c2 R.1] []
    replace S:=S.front (entI x.said)
    replace S:=S.front (entI [y'])
    replace S:=St.entAdd S
    rw[show x.said.length+1=x'.said.length from by rw[hx'];simp]at S
    replace S:=St.items S (bs':=[entI x'.said,Wk.row 25 1 (some ⟨g2,0,none⟩) x'.said.length c2' (encL x'.said),Wk.box b4 26 [.int .i64 R.2],Wk.box g 134 (cWal b (some ⟨g2,0,none⟩) c2' x'),dkI b m p2 c2 R.1]) (by rw[hx'])
    have hc2:=own_le (S.row (some ⟨g2,0,none⟩) x'.said.length)
    have hne:¬b4=g:=St.apart2 S (Wk.box b4 26 [.int .i64 R.2]) (Wk.box g 134 (cWal b (some ⟨g2,0,none⟩) c2' x')) b4 rfl
    refine endDef1 (Wk.box g 134 (cWal b (some ⟨g2,0,none⟩) c2' x')) (Wk.box g 134 (cWal b (some ⟨g2,0,none⟩) c2' (brkF x' R.2))) S rfl ((breaks_d g b4 b (some ⟨g2,0,none⟩) c2' x' R.2 .returning w (S.box g) (BoxF.stable (S.boxF b4) hne)).mono fun _ _ _ h=>h) (fun _ h=>h) (fun w' hwd=>?_)
    rw[hbr]at hwd
    have S2:=(St.ofWd hwd).sub [entI x'.said,Wk.row 25 1 (some ⟨g2,0,none⟩) x'.said.length c2' (encL x'.said),Wk.box g 134 (cWal b (some ⟨g2,0,none⟩) c2' x'),dkI b m p2 c2 R.1] []
    have S3:=S2.perm [Wk.box g 134 (cWal b (some ⟨g2,0,none⟩) c2' x'),Wk.row 25 1 (some ⟨g2,0,none⟩) x'.said.length c2' (encL x'.said),entI x'.said,dkI b m p2 c2 R.1] (((List.Perm.swap _ _ _).trans ((List.Perm.cons _ (List.Perm.swap _ _ _)))).trans (List.Perm.swap _ _ _))
    have hh:=St.hold4 S3 rfl rfl rfl rfl
    have h1:=St.new4 S3 rfl rfl rfl rfl
    refine .inr ⟨hro0,by rw[hR],p2,c2,some ⟨g2,0,none⟩,c2',y',hya,by rw[hx']at hc2;simp at hc2;omega,?_⟩
    rw[←hR,hap]
    exact ⟨hh,h1⟩
   ·refine kK (xtn (kS (kR (sq S ?_))));clear S;intro a S;refine sw S ?_;clear S;intro a w S;refine kN (xtn (kT ?_))
    have hR2:R.2≠0:=of_decide_eq_false h10
    have hap:appS x y' R.2 = { x with broken:=true }:=by rw[appS,if_neg hR2]
    have hbr:brkF x R.2 = { x with broken:=true }:=by simp[brkF,hR2]
    have S:=S.sub [Wk.box b4 26 [.int .i64 R.2],Wk.box g 134 (cWal b q e x),Wk.row 25 1 q x.said.length e (encL x.said),entI x.said,dkI b m p2 c2 R.1] []
    have hne:¬b4=g:=St.apart2 S (Wk.box b4 26 [.int .i64 R.2]) (Wk.box g 134 (cWal b q e x)) b4 rfl
    refine endDef1 (Wk.box g 134 (cWal b q e x)) (Wk.box g 134 (cWal b q e (brkF x R.2))) S rfl ((breaks_d g b4 b q e x R.2 .returning w (S.box g) (BoxF.stable (S.boxF b4) hne)).mono fun _ _ _ h=>h) (fun _ h=>h) (fun w' hwd=>?_)
    rw[hbr]at hwd
    have S3:=(St.ofWd hwd).sub [Wk.box g 134 (cWal b q e { x with broken:=true }),Wk.row 25 1 q x.said.length e (encL x.said),entI x.said,dkI b m p2 c2 R.1] []
    have hh:=St.hold4 S3 rfl rfl rfl rfl
    have h1:=St.new4 S3 rfl rfl rfl rfl
    refine .inr ⟨hro0,by rw[hR],p2,c2,q,e,y',by rw[hy'],hsl.2,?_⟩
    rw[←hR,hap]
    exact ⟨hh,h1⟩
theorem upT_range (t:Int):0≤upT t∧upT t≤4294967295:=by
 unfold upT IntKind.wrap
 simp only[IntKind.bits,IntKind.signed,Bool.false_and]
 simp;omega
def roomC (x:WS) (bs:List UInt8):Int:=if refF x bs=0 then (if x.n < secN bs.length∨upT x.turn=0 then 6 else 0) else refF x bs
def chkS (x:WS) (y:LBy) (r:Int):WS:=if r=0 then { x with turn:=upT x.turn,said:=[y],fin:=secN y.bs.length } else { x with broken:=true }
theorem chk_c (g b m:Nat) (p:Option Addr) (c:Nat) (s:DS) (q:Option Addr) (e:Nat) (x:WS) (y:LBy) (w0:World) (hn:x.n≤1000) (_ht:0≤x.turn∧x.turn≤4294967295) (hyl:y.bs.length≤10000000) (hl:s.loose.length≤980000)
  (hd:(both (dkI b m p c s) (walI g b q e x)).holds w0) (f0:Stable (both (dkI b m p c s) (walI g b q e x)).foot w0 (GlF y.p y.bs)) :
  Ret Tryz.prog 19 [.pointer (some ⟨g,0,none⟩),.slice y.p y.bs.length y.c] w0 (both (dkI b m p c s) (walI g b q e x)).foot fun v w'=>
   (roomC x y.bs≠0∧v=.int .i64 (roomC x y.bs)∧(both (dkI b m p c s) (walI g b q e x)).holds w')∨
   (roomC x y.bs=0∧v=.int .i64 (begF x.n (upT x.turn) y.bs s).2∧∃ p' c' q' e',∃ y':LBy,y'.bs=y.bs∧((begF x.n (upT x.turn) y.bs s).2≠0→q'=q∧e'=e)∧((begF x.n (upT x.turn) y.bs s).2=0→1≤e')∧
    (both (dkI b m p' c' (begF x.n (upT x.turn) y.bs s).1) (walI g b q' e' (chkS x y' (begF x.n (upT x.turn) y.bs s).2))).holds w'∧
    ∀ k,(both (dkI b m p' c' (begF x.n (upT x.turn) y.bs s).1) (walI g b q' e' (chkS x y' (begF x.n (upT x.turn) y.bs s).2))).foot k→(both (dkI b m p c s) (walI g b q e x)).foot k∨w0.heap.size≤k):=by
 have hut:=upT_range x.turn
 refine enterD Tryz.func19 rfl rfl (Wd.it2Lent (x:=dkI b m p c s) (y:=walI g b q e x) (fs:=[GlF y.p y.bs]) hd rfl rfl (by intro Φ hΦ;obtain rfl:=List.mem_singleton.1 hΦ;exact f0)) (fun a S=>?_)
 simp only[Tryz.ntmps19,qqA,qqB,Nat.reduceAdd,Nat.reduceSub,qqC,qqD,qqE,qqF]at S
 replace S:=S.front (walI g b q e x)
 replace S:=St.open3 S
 refine kS (kR ?_);refine sa S ?_;clear S;intro b4 a w S;refine kN (xtn (kS (kS (kR ?_))));(iterate 2 (refine sq S ?_;clear S;intro a S))
 refine sr S (refuses_c g b q e x y _ (BoxF.stable (S.boxF g) (fun h=>h))) ?_;clear S;rintro _ a w rfl S
 refine sq S ?_;clear S;intro a S;refine kN (xtn (kS (kR ?_)));(iterate 2 (refine sq S ?_;clear S;intro a S));refine kN (xtn ?_)
 refine kC S (fun h2=>?_) (fun h2=>?_)
 ·refine kS (kR (sq S ?_));clear S;intro a S;refine sw S ?_;clear S;intro a w S;refine kN (xtn (kT (xtr ?_)))
  have he:refF x y.bs≠0:=by simpa using h2
  have hR:roomC x y.bs=refF x y.bs:=by rw[roomC,if_neg he]
  have hh:=St.hold4 (S.sub [Wk.box g 134 (cWal b q e x),Wk.row 25 1 q x.said.length e (encL x.said),entI x.said,dkI b m p c s] []) rfl rfl rfl rfl
  refine endD1 S (.inl ?_)
  rw[hR]
  exact ⟨he,rfl,hh⟩
 ·refine kK (xtn (kS ?_))
  have he:refF x y.bs=0:=by simpa using h2
  obtain ⟨hy4,hbk⟩:=refF_zero he
  refine kR ?_;(iterate 2 (refine sq S ?_;clear S;intro a S));refine sr S (sectors_c (y.bs.length:Int) _) ?_;clear S;rintro _ a w rfl S
  rw[secF_nat _ hy4]at S
  refine sq S ?_;clear S;intro a S;refine kN (xtn (kS (kS (kR ?_))));(iterate 8 (refine sq S ?_;clear S;intro a S));(iterate 7 (refine gQ S ?_;clear S;intro a S));refine sq S ?_;clear S;intro a S;refine kN (xtn ?_)
  refine kC S (fun h5=>?_) (fun h5=>?_)
  ·refine kS (kR (sw S ?_));clear S;intro a w S;refine kN (xtn (kT (xtr ?_)))
   have hro:x.n < secN y.bs.length∨upT x.turn=0:=by
    rw[show IntKind.u32.wrap (x.turn+1)=upT x.turn from rfl]at h5
    simp at h5;omega
   have hR:roomC x y.bs=6:=by rw[roomC,if_pos he,if_pos hro]
   have hh:=St.hold4 (S.sub [Wk.box g 134 (cWal b q e x),Wk.row 25 1 q x.said.length e (encL x.said),entI x.said,dkI b m p c s] []) rfl rfl rfl rfl
   refine endD1 S (.inl ?_)
   rw[hR]
   exact ⟨by decide,rfl,hh⟩
  ·refine kK (xtn (kS ?_))
   have hro:¬(x.n < secN y.bs.length∨upT x.turn=0):=by
    rw[show IntKind.u32.wrap (x.turn+1)=upT x.turn from rfl]at h5
    simp at h5;omega
   refine kR (sq S ?_);clear S;intro a S;refine sdefc S ?_;clear S;intro a S;refine kN (xtn (kS (kR (sq S ?_))));clear S;intro a S
   replace S:=S.addNil 5 1
   refine sap S (by simp only[maxLen];omega) (by omega) ?_;clear S;rintro p8 c8 a w - S
   rw[show ([]:List Value)++encL y.bs=encL y.bs from rfl,Nat.zero_add]at S
   have hc8:=own_le (S.row p8 y.bs.length)
   replace S:=St.rowEnt S ⟨p8,c8,y.bs⟩ (S.row p8 y.bs.length)
   obtain ⟨y',hy'⟩:∃ y':LBy,y'=⟨p8,c8,y.bs⟩:=⟨_,rfl⟩
   rw[←hy']at S
   obtain ⟨R,hR⟩:∃ R,R=begF x.n (upT x.turn) y.bs s:=⟨_,rfl⟩
   have hro0:roomC x y.bs=0:=by rw[roomC,if_pos he,if_neg hro]
   refine sq S ?_;clear S;intro a S;refine kN (xtn (kS (kR ?_)));(iterate 4 (refine sq S ?_;clear S;intro a S));refine sr S (next_c b x.n x.turn _) ?_;clear S;rintro _ a w rfl S;refine sa S ?_;clear S;intro b8 a w S;refine sw S ?_;clear S;intro a w S;refine kN (xtn (kS (kS (kR ?_))));(iterate 2 (refine sq S ?_;clear S;intro a S))
   have hgl:Stable (dkI b m p c s).foot w (GlF y'.p y'.bs):=St.entGl S (fun k hk hk2=>St.apart2 S (entI [y']) (dkI b m p c s) k hk hk2) (by simp)
   rw[hy']at hgl
   refine sit (dkI b m p c s) S (begin_c b m x.n p c s (upT x.turn) y.bs p8 c8 _ hn hut hy4 hc8 (by omega) (S.it (dkI b m p c s)) hgl) rfl ?_;clear S hgl;rintro _ a w ⟨rfl,p2,c2,hh,hn2⟩ hS
   have S:=hS (dkI b m p2 c2 (begF x.n (upT x.turn) y.bs s).1) hh hn2
   clear hS
   rw[←hR]at S
   refine sw S ?_;clear S;intro a w S;refine kN (xtn (kS (kR ?_)));(iterate 2 (refine sq S ?_;clear S;intro a S));refine kN (xtn ?_)
   refine kC S (fun h11=>?_) (fun h11=>?_)
   ·refine kR ?_;(iterate 5 (refine sq S ?_;clear S;intro a S));refine sn S ?_;clear S;intro b52 a w S;(iterate 3 (refine sq S ?_;clear S;intro a S));refine sw S ?_;clear S;intro a w S;(iterate 2 (refine sq S ?_;clear S;intro a S));refine sw S ?_;clear S;intro a w S;(iterate 2 (refine sq S ?_;clear S;intro a S));refine sw S ?_;clear S;intro a w S;refine kN (xtn (kS (kR (sq S ?_))));clear S;intro a S;refine sw S ?_;clear S;intro a w S;refine kN (xtn (kT ?_))
    have hR2:R.2=0:=of_decide_eq_true h11
    obtain ⟨x',hx'⟩:∃ x':WS,x' = { x with turn:=upT x.turn,said:=[y'],fin:=secN y.bs.length }:=⟨_,rfl⟩
    have hya:y'.bs=y.bs:=by rw[hy']
    have hap:chkS x y' R.2=x':=by rw[chkS,if_pos hR2,hx',hya]
    have hbr:brkF x' R.2=x':=by rw[brkF,hR2];simp
    replace S:=S.boxRow b52 1 1 rfl (by decide)
    replace S:=S.sub [Wk.row 25 1 (some ⟨b52,0,none⟩) 1 1 [.slice p8 y.bs.length c8],entI [y'],Wk.box b4 26 [.int .i64 R.2],Wk.box g 134 [.pointer (some ⟨b,0,none⟩),.int .i64 (x.n:Int),.int .u32 (upT x.turn),.slice (some ⟨b52,0,none⟩) 1 1,.int .i64 (secN y.bs.length:Int),.bool x.broken],dkI b m p2 c2 R.1] []
    replace S:=St.items S (bs':=[Wk.row 25 1 (some ⟨b52,0,none⟩) x'.said.length 1 (encL x'.said),entI x'.said,Wk.box b4 26 [.int .i64 R.2],Wk.box g 134 (cWal b (some ⟨b52,0,none⟩) 1 x'),dkI b m p2 c2 R.1]) (by rw[hx',hy'];rfl)
    have hne:¬b4=g:=St.apart2 S (Wk.box b4 26 [.int .i64 R.2]) (Wk.box g 134 (cWal b (some ⟨b52,0,none⟩) 1 x')) b4 rfl
    refine endDef1 (Wk.box g 134 (cWal b (some ⟨b52,0,none⟩) 1 x')) (Wk.box g 134 (cWal b (some ⟨b52,0,none⟩) 1 (brkF x' R.2))) S rfl ((breaks_d g b4 b (some ⟨b52,0,none⟩) 1 x' R.2 .returning w (S.box g) (BoxF.stable (S.boxF b4) hne)).mono fun _ _ _ h=>h) (fun _ h=>h) (fun w' hwd=>?_)
    rw[hbr]at hwd
    have S2:=(St.ofWd hwd).sub [Wk.row 25 1 (some ⟨b52,0,none⟩) x'.said.length 1 (encL x'.said),entI x'.said,Wk.box g 134 (cWal b (some ⟨b52,0,none⟩) 1 x'),dkI b m p2 c2 R.1] []
    have S3:=S2.perm [Wk.box g 134 (cWal b (some ⟨b52,0,none⟩) 1 x'),Wk.row 25 1 (some ⟨b52,0,none⟩) x'.said.length 1 (encL x'.said),entI x'.said,dkI b m p2 c2 R.1] ((List.Perm.swap _ _ _).trans (List.Perm.cons _ (List.Perm.swap _ _ _)))
    have hh:=St.hold4 S3 rfl rfl rfl rfl
    have h1:=St.new4 S3 rfl rfl rfl rfl
    refine .inr ⟨hro0,by rw[hR],p2,c2,some ⟨b52,0,none⟩,1,y',hya,fun h=>absurd (hR▸hR2) h,fun _=>Nat.le_refl _,?_⟩
    rw[←hR,hap]
    exact ⟨hh,h1⟩
   ·refine kK (xtn (kS (kR (sq S ?_))));clear S;intro a S;refine sw S ?_;clear S;intro a w S;refine kN (xtn (kT ?_))
    have hR2:R.2≠0:=of_decide_eq_false h11
    have hap:chkS x y' R.2 = { x with broken:=true }:=by rw[chkS,if_neg hR2]
    have hbr:brkF x R.2 = { x with broken:=true }:=by simp[brkF,hR2]
    have S:=S.sub [Wk.box b4 26 [.int .i64 R.2],Wk.box g 134 (cWal b q e x),Wk.row 25 1 q x.said.length e (encL x.said),entI x.said,dkI b m p2 c2 R.1] []
    have hne:¬b4=g:=St.apart2 S (Wk.box b4 26 [.int .i64 R.2]) (Wk.box g 134 (cWal b q e x)) b4 rfl
    refine endDef1 (Wk.box g 134 (cWal b q e x)) (Wk.box g 134 (cWal b q e (brkF x R.2))) S rfl ((breaks_d g b4 b q e x R.2 .returning w (S.box g) (BoxF.stable (S.boxF b4) hne)).mono fun _ _ _ h=>h) (fun _ h=>h) (fun w' hwd=>?_)
    rw[hbr]at hwd
    have S3:=(St.ofWd hwd).sub [Wk.box g 134 (cWal b q e { x with broken:=true }),Wk.row 25 1 q x.said.length e (encL x.said),entI x.said,dkI b m p2 c2 R.1] []
    have hh:=St.hold4 S3 rfl rfl rfl rfl
    have h1:=St.new4 S3 rfl rfl rfl rfl
    refine .inr ⟨hro0,by rw[hR],p2,c2,q,e,y',by rw[hy'],fun _=>⟨rfl,rfl⟩,fun h=>absurd h (by rw[←hR];exact hR2),?_⟩
    rw[←hR,hap]
    exact ⟨hh,h1⟩
theorem getB_put (k u:Int) (v:Blk):∀ f,getB k (putB u v f)=if k=u then some v else getB k f
 | []=>by simp[putB,getB]
 | (w,x)::f=>by
  rw[putB]
  split
  rename_i h
  subst h
  rw[getB,getB]
  split <;> rfl
  rename_i h
  rw[getB,getB,getB_put k u v f]
  by_cases hw:k=w
  subst hw;rw[if_pos rfl,if_pos rfl,if_neg (fun e=>h e.symm)]
  rw[if_neg hw,if_neg hw]
theorem findB_snoc (k:Int) (x:LWr):∀ l,findB k (l++[x])=(if x.at_=k then some x.b else none).or (findB k l)
 | []=>by simp[findB]
 | y::l=>by rw[qqE,findB,findB_snoc k x l,findB,Option.or_assoc]
theorem settle_all (j:Int) (l:List LWr) (f:List (Int × Blk)):∀ k,k≤l.length→getB j (settleK (fun _=>true) l f k)=(findB j (l.take k)).or (getB j f)
 | 0,_=>by rw[settleK,List.take_zero,findB,Option.none_or]
 | k+1,h=>by
  rw[settleK,if_pos rfl,getB_put,take_snocW (by omega),findB_snoc,settle_all j l f k (by omega)]
  by_cases e:j=(nthG l k).at_
  rw[if_pos e,if_pos e.symm];rfl
  rw[if_neg e,if_neg (fun h=>e h.symm)];rfl
theorem settle_any (j:Int) (st:Nat→Bool) (l:List LWr) (f:List (Int × Blk)):∀ k,k≤l.length→getB j (settleK st l f k)=getB j f∨∃ x∈l,x.at_=j∧getB j (settleK st l f k)=some x.b
 | 0,_=>.inl rfl
 | k+1,h=>by
  rw[settleK]
  split
  rw[getB_put]
  by_cases e:j=(nthG l k).at_
  rw[if_pos e];exact .inr ⟨nthG l k,nthG_mem (by omega),e.symm,rfl⟩
  rw[if_neg e];exact settle_any j st l f k (by omega)
  exact settle_any j st l f k (by omega)
theorem holds_firm {s:DS} (h:s.loose=[]) (k:Int):holdsF s k=(getB k s.firm).getD zB:=by rw[holdsF,h,findB,Option.none_or]
structure Up (s:DS):Prop where
 on:s.out=false
 fit:s.fails.on=false
def hit (s:DS):Bool:=(metF s.arms).1
theorem met_off {c:Cnt} (h:c.on=false):metF c=(false,c):=by rw[metF,if_neg (by rw[h];exact Bool.false_ne_true)]
theorem hit_off {s:DS} (h:s.arms.on=false):hit s=false:=by rw[hit,met_off h]
theorem ask_up {s:DS} (h:Up s) {k:Int} (hk:0≤k∧k < s.size) (b:Bool):askE s k b=if b&&hit s then 9 else 0:=by
 rw[askE,if_neg (by rw[h.on];exact Bool.false_ne_true),if_neg (by omega),met_off h.fit,if_neg (by exact Bool.false_ne_true)];rfl
theorem rd_up {s:DS} (h:Up s) {k:Int} (hk:0≤k∧k < s.size):askE s k false=0∧rdB s k=holdsF s k∧rdD s k=opD s:=by
 have h1:askE s k false=0:=by rw[ask_up h hk];rfl
 refine ⟨h1,by rw[rdB,if_pos h1],?_⟩
 rw[rdD,if_pos h1,askD,if_neg (by rw[h.on];exact Bool.false_ne_true),if_neg (by omega),met_off h.fit,if_neg (by exact Bool.false_ne_true),if_neg (by exact Bool.false_ne_true)]
theorem askD_up {s:DS} (h:Up s) {k:Int} (hk:0≤k∧k < s.size):askD s k true=if hit s then { s with arms:=(metF s.arms).2,out:=true } else { s with arms:=(metF s.arms).2 }:=by
 rw[askD,if_neg (by rw[h.on];exact Bool.false_ne_true),if_neg (by omega),met_off h.fit,if_neg (by exact Bool.false_ne_true),if_pos rfl]
 rfl
theorem asked_up {s:DS} (h:Up s) {k:Int} (hk:0≤k∧k < s.size) (g:DS→DS):(hit s=false∧askE s k true=0∧askedD g s k=opD (g { s with arms:=(metF s.arms).2 }))∨(hit s=true∧askE s k true=9∧askedD g s k = { s with arms:=(metF s.arms).2,out:=true }):=by
 have h1:=ask_up h hk true
 have h2:=askD_up h hk
 cases hh:hit s with
 | false=>
  rw[hh]at h1 h2
  replace h1:askE s k true=0:=h1
  refine .inl ⟨rfl,h1,?_⟩
  rw[askedD,if_pos h1,h2];rfl
 | true=>
  rw[hh]at h1 h2
  replace h1:askE s k true=9:=h1
  refine .inr ⟨rfl,h1,?_⟩
  rw[askedD,if_neg (by rw[h1];decide),h2];rfl
theorem met_stays {c:Cnt} (h:c.on=false):(metF c).2.on=false:=by rw[met_off h];exact h
structure Alike (s s':DS):Prop where
 size:s'.size=s.size
 fails:s'.fails=s.fails
 firm:s'.firm=s.firm
def wrs:Nat→List Blk→List LWr
 | _,[]=>[]
 | k,x::xs=>⟨(k:Int),x⟩::wrs (k+1) xs
theorem wrs_mem:∀ {xs:List Blk} {k:Nat} {y:LWr},y∈wrs k xs→∃ i,y.at_=((k+i:Nat):Int)∧xs[i]? = some y.b
 | [],_,_,h=>by cases h
 | x::xs,k,y,h=>by
  rw[wrs]at h
  rcases List.mem_cons.1 h with rfl | h
  exact ⟨0,rfl,rfl⟩
  obtain ⟨i,h1,h2⟩:=wrs_mem h
  exact ⟨i+1,by rw[h1];congr 1;omega,by simpa using h2⟩
theorem wrs_find:∀ (xs:List Blk) (k:Nat) (j:Int),findB j (wrs k xs)=if (k:Int)≤j∧j < ((k+xs.length:Nat):Int) then xs[(j - k).toNat]? else none
 | [],k,j=>by rw[wrs,findB,if_neg (by simp only[qqB];omega)]
 | x::xs,k,j=>by
  rw[wrs,findB,wrs_find xs (k+1) j]
  by_cases h1:j=(k:Int)
  subst h1
  rw[if_neg (by omega),if_pos rfl,if_pos (by simp only[qqA];omega),Int.sub_self];rfl
  rw[if_neg (show ¬((⟨(k:Int),x⟩:LWr).at_=j) from fun e=>h1 e.symm),Option.or_none]
  by_cases h2:(k:Int)≤j∧j < ((k+(x::xs).length:Nat):Int)
  rw[if_pos h2,if_pos (by simp only[qqA]at h2;omega)]
  have:(j - (k:Int)).toNat=(j - ((k+1:Nat):Int)).toNat+1:=by omega
  rw[this,List.getElem?_cons_succ]
  rw[if_neg h2,if_neg (by simp only[qqA]at h2;omega)]
theorem lay_w:∀ (xs:List Blk) (s:DS) (k:Nat),Up s→((k+xs.length:Nat):Int)≤s.size→
  Alike s (layW s k xs).1∧(((layW s k xs).2=0∧(layW s k xs).1.out=false∧(layW s k xs).1.loose=s.loose++wrs k xs∧(s.arms.on=false→(layW s k xs).1.arms.on=false))∨
   (s.arms.on=true∧(layW s k xs).2=9∧(layW s k xs).1.out=true∧∃ i,(layW s k xs).1.loose=s.loose++wrs k (xs.take i)))
 | [],s,k,hu,_=>by
  rw[layW]
  exact ⟨⟨rfl,rfl,rfl⟩,.inl ⟨rfl,hu.on,by rw[wrs,List.append_nil],id⟩⟩
 | x::xs,s,k,hu,hk=>by
  simp only[qqA]at hk
  rcases asked_up hu (k:=(k:Int)) (by omega) (fun s=>writeD s k x) with ⟨h1,h2,h3⟩ | ⟨h1,h2,h3⟩
  rw[layW,if_pos h2,show ((k:Int)+1)=((k+1:Nat):Int) from rfl]
  have e:wrD s k x=opD (writeD { s with arms:=(metF s.arms).2 } k x):=h3
  have hu1:Up (wrD s k x):=by rw[e];exact ⟨hu.on,hu.fit⟩
  have hs1:(wrD s k x).size=s.size:=by rw[e];rfl
  obtain ⟨ha,hc⟩:=lay_w xs (wrD s k x) (k+1) hu1 (by rw[hs1];omega)
  refine ⟨⟨ha.size.trans hs1,ha.fails.trans (by rw[e];rfl),ha.firm.trans (by rw[e];rfl)⟩,?_⟩
  have hl:(wrD s k x).loose=s.loose++[⟨(k:Int),x⟩]:=by rw[e];rfl
  have harm:s.arms.on=false→(wrD s k x).arms.on=false:=fun h=>by rw[e];exact met_stays h
  rcases hc with ⟨c1,c2,c3,c4⟩ | ⟨c0,c1,c2,i,c3⟩
  exact .inl ⟨c1,c2,by rw[c3,hl,wrs,List.append_assoc];rfl,fun h=>c4 (harm h)⟩
  refine .inr ⟨?_,c1,c2,i+1,by rw[c3,hl,List.take_succ_cons,wrs,List.append_assoc];rfl⟩
  cases hx:s.arms.on with
  | true=>rfl
  | false=>rw[harm hx]at c0;cases c0
  rw[layW,if_neg (by rw[h2];decide)]
  have e:wrD s k x = { s with arms:=(metF s.arms).2,out:=true }:=h3
  refine ⟨by rw[e];exact ⟨rfl,rfl,rfl⟩,.inr ⟨?_,h2,by rw[e],0,by rw[e,List.take_zero,wrs,List.append_nil]⟩⟩
  cases hx:s.arms.on with
  | true=>rfl
  | false=>rw[hit_off hx]at h1;cases h1
theorem sy_up {s:DS} (hu:Up s) (h0:0 < s.size):((askE s 0 true=0∧(syD s).out=false∧(syD s).loose=[]∧(∀ j,holdsF (syD s) j=holdsF s j)∧(syD s).size=s.size∧(syD s).fails=s.fails∧(s.arms.on=false→(syD s).arms.on=false))∨
  (s.arms.on=true∧askE s 0 true=9∧(syD s).out=true∧(syD s).loose=s.loose∧Alike s (syD s))):=by
 rcases asked_up hu (k:=0) (by omega) (settleD fun _=>true) with ⟨h1,h2,h3⟩ | ⟨h1,h2,h3⟩
 have e:syD s=opD (settleD (fun _=>true) { s with arms:=(metF s.arms).2 }):=h3
 refine .inl ⟨h2,by rw[e];exact hu.on,by rw[e];rfl,fun j=>?_,by rw[e];rfl,by rw[e];rfl,fun h=>by rw[e];exact met_stays h⟩
 rw[holds_firm (by rw[e];rfl),holdsF,e]
 show (getB j (settleK (fun _=>true) s.loose s.firm s.loose.length)).getD zB=_
 rw[settle_all j s.loose s.firm s.loose.length (Nat.le_refl _),List.take_length]
 have e:syD s = { s with arms:=(metF s.arms).2,out:=true }:=h3
 refine .inr ⟨?_,h2,by rw[e],by rw[e],by rw[e];exact ⟨rfl,rfl,rfl⟩⟩
 cases hx:s.arms.on with
 | true=>rfl
 | false=>rw[hit_off hx]at h1;cases h1
theorem lay_f (xs:List Blk) (s:DS) (k:Nat) (hu:Up s) (hl:s.loose=[]) (h0:0 < s.size) (hk:((k+xs.length:Nat):Int)≤s.size) :
  ((layF s k xs).2=0∧Up (layF s k xs).1∧(layF s k xs).1.loose=[]∧(layF s k xs).1.size=s.size∧(s.arms.on=false→(layF s k xs).1.arms.on=false)∧∀ j,holdsF (layF s k xs).1 j=(findB j (wrs k xs)).getD (holdsF s j))∨
  (s.arms.on=true∧(layF s k xs).2=9∧(layF s k xs).1.out=true∧Alike s (layF s k xs).1∧∃ i,(layF s k xs).1.loose=wrs k (xs.take i)):=by
 obtain ⟨ha,hc⟩:=lay_w xs s k hu hk
 rw[hl]at hc
 simp only[qqF]at hc
 rcases hc with ⟨c1,c2,c3,c4⟩ | ⟨c0,c1,c2,i,c3⟩
 have e:layF s k xs=(syD (layW s k xs).1,askE (layW s k xs).1 0 true):=by rw[layF,if_pos c1]
 have hu1:Up (layW s k xs).1:=⟨c2,by rw[ha.fails];exact hu.fit⟩
 rw[e]
 rcases sy_up hu1 (by rw[ha.size];exact h0) with ⟨d1,d2,d3,d4,d5,d6,d7⟩ | ⟨d0,d1,d2,d3,d4⟩
 refine .inl ⟨d1,⟨d2,by rw[d6];exact hu1.fit⟩,d3,d5.trans ha.size,fun h=>d7 (c4 h),fun j=>?_⟩
 show holdsF (syD (layW s k xs).1) j=_
 rw[d4,holdsF,c3,ha.firm,holds_firm hl]
 cases findB j (wrs k xs) <;> rfl
 refine .inr ⟨?_,d1,d2,⟨d4.size.trans ha.size,d4.fails.trans ha.fails,d4.firm.trans ha.firm⟩,xs.length,by rw[List.take_length];exact d3.trans c3⟩
 cases hx:s.arms.on with
 | true=>rfl
 | false=>rw[c4 hx]at d0;cases d0
 have e:layF s k xs=layW s k xs:=by rw[layF,if_neg (by rw[c1];decide)]
 rw[e]
 exact .inr ⟨c0,c1,c2,ha,i,c3⟩
theorem crash_any (l:List Bool) (s:DS):Up (crashD l s)∧(crashD l s).loose=[]∧(crashD l s).size=s.size∧(crashD l s).arms.on=false∧∀ j,holdsF (crashD l s) j=(getB j s.firm).getD zB∨∃ x∈s.loose,x.at_=j∧holdsF (crashD l s) j=x.b:=by
 refine ⟨⟨rfl,rfl⟩,rfl,rfl,rfl,fun j=>?_⟩
 rw[holds_firm (s:=crashD l s) rfl]
 show (getB j (settleK (keepF l) s.loose s.firm s.loose.length)).getD zB=_∨_
 rcases settle_any j (keepF l) s.loose s.firm s.loose.length (Nat.le_refl _) with h | ⟨x,h1,h2,h3⟩
 rw[h];exact .inl rfl
 exact .inr ⟨x,h1,h2,by show (getB j (settleK (keepF l) s.loose s.firm s.loose.length)).getD zB=_;rw[h3];rfl⟩
theorem crash_lay (l:List Bool) {s:DS} {xs:List Blk} {k:Nat} (hl:s.loose=[]) {r:DS} (ha:Alike s r) {i:Nat} (hr:r.loose=wrs k (xs.take i)) (j:Int) :
  holdsF (crashD l r) j=holdsF s j∨∃ m,j=((k+m:Nat):Int)∧xs[m]? = some (holdsF (crashD l r) j):=by
 obtain ⟨_,_,_,_,h1⟩:=crash_any l r
 rcases h1 j with e | ⟨x,hx,h2,h3⟩
 rw[e,ha.firm,holds_firm hl];exact .inl rfl
 rw[hr]at hx
 obtain ⟨m,e1,e2⟩:=wrs_mem hx
 rw[List.getElem?_take]at e2
 split at e2
 exact .inr ⟨m,h2.symm.trans e1,by rw[h3];exact e2⟩
 cases e2
def fieldOf (s:DS) (fr n:Nat):List Blk:=(List.range n).map fun i=>holdsF s ((fr+i:Nat):Int)
theorem fieldOf_len (s:DS) (fr n:Nat):(fieldOf s fr n).length=n:=by simp[fieldOf]
theorem fieldOf_get (s:DS) (fr n i:Nat) (h:i < n):(fieldOf s fr n)[i]? = some (holdsF s ((fr+i:Nat):Int)):=by
 rw[fieldOf,List.getElem?_map,List.getElem?_range h];rfl
theorem fieldOf_eq {s s':DS} {fr n:Nat} (h:∀ i,i < n→holdsF s' ((fr+i:Nat):Int)=holdsF s ((fr+i:Nat):Int)):fieldOf s' fr n=fieldOf s fr n:=
 List.map_congr_left fun i hi=>h i (List.mem_range.1 hi)
def Below (s:DS) (t:Int) (i:Nat) (y:Blk):Prop:=(mayF s (tellN y)&&decide (tellT y % 2=(i:Int))&&decide (y.l=(titleF (tellT y) (tellN y)).l))=true→tellT y < t
structure LogOn (s:DS) (n:Nat) (t:Int) (said:List (List UInt8)) (tail:List Blk):Prop where
 up:Up s
 loose:s.loose=[]
 hn:4≤n∧n≤1000
 size:((2*n+2:Nat):Int)≤s.size
 ht:0≤t∧t≤4294967295
 title:holdsF s ((t % 2).toNat:Int)=titleF t n
 other:Below s t (1 - (t % 2).toNat) (holdsF s ((1 - (t % 2).toNat:Nat):Int))
 some_:said≠[]
 short:∀ b∈said,b.length≤40000
 cur:fieldOf s (fromN n t) n=laidF t said 0++tail
 oth:∀ i,i < n→Fresh (t+1) (holdsF s ((fromN n (t+1)+i:Nat):Int))
def Live (s:DS) (n:Nat) (t:Int) (said:List (List UInt8)):Prop:=∃ tail,LogOn s n t said tail∧∀ x∈tail,Fresh t x
def Able (s:DS) (n:Nat) (t:Int) (said:List (List UInt8)):Prop:=∃ tail,LogOn s n t said tail∧NoEntry t (said.length:Nat) tail∧∀ x∈tail,Fresh (t+1) x
def Clean (s:DS) (n:Nat) (t:Int) (said:List (List UInt8)):Prop:=∃ k,LogOn s n t said (List.replicate k zB)
def endF (t:Int) (said:List (List UInt8)):Nat:=(laidF t said 0).length
theorem LogOn.len {s:DS} {n:Nat} {t:Int} {said:List (List UInt8)} {tail:List Blk} (h:LogOn s n t said tail):endF t said+tail.length=n:=by
 have:=congrArg List.length h.cur
 rw[fieldOf_len,List.length_append]at this
 exact this.symm
theorem laid_len (t:Int):∀ (said:List (List UInt8)) (j:Nat),said.length≤(laidF t said j).length
 | [],_=>Nat.le_refl _
 | b::l,j=>by
  have:=laid_len t l (j+1)
  have:=secN_pos b.length
  rw[laidF,List.length_append,leavesF_len,qqA];omega
theorem LogOn.few {s:DS} {n:Nat} {t:Int} {said:List (List UInt8)} {tail:List Blk} (h:LogOn s n t said tail):said.length≤n∧0 < said.length:=
 ⟨by have:=laid_len t said 0;have:=h.len;unfold endF at this;omega,List.length_pos_iff.2 h.some_⟩
theorem Live.able {s:DS} {n:Nat} {t:Int} {said:List (List UInt8)} (h:Live s n t said):Able s n t said:=by
 obtain ⟨tail,h,hf⟩:=h
 have h1:=h.few
 have h2:=h.hn
 exact ⟨tail,h,noEntry_fresh h.ht.2 (by omega) hf,fun x hx=>(hf x hx).mono (by omega)⟩
theorem from_bound {n:Nat} (t:Int) (hn:n≤1000):2≤fromN n t∧fromN n t≤2+n:=by
 unfold fromN
 rcases (show (t % 2).toNat=0∨(t % 2).toNat=1 by omega) with h | h <;> rw[h] <;> omega
theorem from_apart {n:Nat} (t:Int) {i j:Nat} (hi:i < n) (hj:j < n):fromN n t+i≠fromN n (t+1)+j:=by
 unfold fromN
 rcases (show t % 2=0∨t % 2=1 by omega) with h | h
 rw[show (t+1) % 2=1 from by omega,h];simp;omega
 rw[show (t+1) % 2=0 from by omega,h];simp;omega
theorem from_two {n:Nat} (t:Int):fromN n (t+1+1)=fromN n t:=by
 unfold fromN
 rw[show (t+1+1) % 2=t % 2 from by omega]
theorem LogOn.same {s s':DS} {n:Nat} {t:Int} {said:List (List UInt8)} {tail:List Blk} (h:LogOn s n t said tail) (hu:Up s') (hl:s'.loose=[]) (hz:s'.size=s.size) (hh:∀ j,holdsF s' j=holdsF s j):LogOn s' n t said tail where
 up:=hu
 loose:=hl
 hn:=h.hn
 size:=by rw[hz];exact h.size
 ht:=h.ht
 title:=by rw[hh];exact h.title
 other:=by
  have:=h.other
  unfold Below mayF at this⊢
  rw[hz,hh];exact this
 some_:=h.some_
 short:=h.short
 cur:=by rw[fieldOf_eq fun i _=>hh _];exact h.cur
 oth:=fun i hi=>by rw[hh];exact h.oth i hi
theorem over_in {xs:List Blk} {k i:Nat} (hi:i < xs.length) (u:Blk):(findB ((k+i:Nat):Int) (wrs k xs)).getD u=(xs[i]?).getD u:=by
 rw[wrs_find,if_pos (by omega)]
 congr 2;omega
theorem over_out {xs:List Blk} {k:Nat} {j:Int} (h:j < (k:Int)∨((k+xs.length:Nat):Int)≤j) (u:Blk):(findB j (wrs k xs)).getD u=u:=by
 rw[wrs_find,if_neg (by omega)];rfl
theorem field_over {s s':DS} {fr n k:Nat} {xs:List Blk} (hk:k+xs.length≤n) (h:∀ j,holdsF s' j=(findB j (wrs (fr+k) xs)).getD (holdsF s j)):fieldOf s' fr n=(fieldOf s fr n).take k++xs++(fieldOf s fr n).drop (k+xs.length):=by
 have hl:((fieldOf s fr n).take k).length=k:=by rw[List.length_take,fieldOf_len];omega
 apply List.ext_getElem?
 intro i
 by_cases hi:i < n
 rw[fieldOf_get s' fr n i hi,h]
 by_cases h1:i < k
 rw[over_out (.inl (by omega)),List.append_assoc,List.getElem?_append_left (by omega),List.getElem?_take,if_pos h1,fieldOf_get s fr n i hi]
 by_cases h2:i < k+xs.length
 rw[show (fr+i:Nat)=fr+k+(i - k) from by omega,over_in (by omega),List.append_assoc,List.getElem?_append_right (by omega),hl,List.getElem?_append_left (by omega),List.getElem?_eq_getElem (by omega)];rfl
 rw[over_out (.inr (by omega)),List.getElem?_append_right (by rw[List.length_append,hl];omega),List.length_append,hl,List.getElem?_drop,show k+xs.length+(i - (k+xs.length))=i from by omega,fieldOf_get s fr n i hi]
 rw[List.getElem?_eq_none (by rw[fieldOf_len];omega),List.getElem?_eq_none (by rw[List.length_append,List.length_append,hl,List.length_drop,fieldOf_len];omega)]
def Mix (tail xs tail':List Blk):Prop:=tail'.length=tail.length∧∀ (i:Nat) (x:Blk),tail'[i]? = some x→tail[i]? = some x∨xs[i]? = some x
theorem mix_entry {t j:Int} {bs:List UInt8} {tail tail':List Blk} (ht:t≤4294967295) (hj:1≤j∧j≤4294967295) (hb:bs.length≤40000) (hf:∀ x∈tail,Fresh t x) (hm:Mix tail (leavesF t j bs) tail') (_hn:(leavesF t j bs).length≤tail.length) :
  (∃ rest,tail'=leavesF t j bs++rest∧∀ x∈rest,Fresh t x)∨NoEntry t j tail':=by
 by_cases hp:leavesF t j bs <+: tail'
 obtain ⟨rest,hr⟩:=hp
 refine .inl ⟨rest,hr.symm,fun x hx=>?_⟩
 obtain ⟨i,hi⟩:=List.getElem?_of_mem hx
 have h1:tail'[(leavesF t j bs).length+i]? = some x:=by rw[←hr,List.getElem?_append_right (by omega),show (leavesF t j bs).length+i - (leavesF t j bs).length=i from by omega];exact hi
 rcases hm.2 _ _ h1 with h2 | h2
 exact hf x (List.mem_of_getElem? h2)
 rw[List.getElem?_eq_none (by omega)]at h2;cases h2
 refine .inr fun bs' hb' ⟨rest,hr⟩=>hp ?_
 have key:∀ i,i < secN bs'.length→(leavesF t j bs)[i]? = some (leafF t j bs' i):=fun i hi=>by
  have h1:tail'[i]? = some (leafF t j bs' i):=by rw[←hr,List.getElem?_append_left (by rw[leavesF_len];exact hi)];exact leaves_get t j bs' i hi
  rcases hm.2 _ _ h1 with h2 | h2
  exact absurd rfl (hf _ (List.mem_of_getElem? h2) t j bs' i (Int.le_refl _) ht hj.1 hj.2)
  exact h2
 have h0:=key 0 (secN_pos _)
 rw[leaves_get t j bs 0 (secN_pos _)]at h0
 have hlen:(bs.length:Int)=(bs'.length:Int):=wbe2_inj (by omega) (by omega) (leaf_parts (Option.some.inj h0)).2.2.1
 have hll:bs.length=bs'.length:=by omega
 have he:leavesF t j bs=leavesF t j bs':=by
  apply List.ext_getElem?
  intro i
  by_cases hi:i < secN bs'.length
  rw[key i hi,leaves_get t j bs' i hi]
  rw[List.getElem?_eq_none (by rw[leavesF_len,hll];omega),List.getElem?_eq_none (by rw[leavesF_len];omega)]
 rw[he];exact ⟨rest,hr⟩
theorem zero_entry {t j:Int} {tail tail':List Blk} (ht:t≤4294967295) (hj:1≤j∧j≤4294967295) (hn:NoEntry t j tail) (hm:∀ (i:Nat) (x:Blk),tail'[i]? = some x→tail[i]? = some x∨x=zB):NoEntry t j tail':=by
 refine fun bs hb ⟨rest,hr⟩=>hn bs hb ?_
 have key:∀ i,i < secN bs.length→tail[i]? = some (leafF t j bs i):=fun i hi=>by
  have h1:tail'[i]? = some (leafF t j bs i):=by rw[←hr,List.getElem?_append_left (by rw[leavesF_len];exact hi)];exact leaves_get t j bs i hi
  rcases hm _ _ h1 with h2 | h2
  exact h2
  exact absurd h2.symm (fresh_zero t t j bs i (Int.le_refl _) ht hj.1 hj.2)
 refine ⟨tail.drop (secN bs.length),?_⟩
 have e:leavesF t j bs=tail.take (secN bs.length):=by
  apply List.ext_getElem?
  intro i
  rw[List.getElem?_take]
  by_cases hi:i < secN bs.length
  rw[if_pos hi,key i hi,leaves_get t j bs i hi]
  rw[if_neg hi,List.getElem?_eq_none (by rw[leavesF_len];omega)]
 rw[e,List.take_append_drop]
theorem title_tells (t:Int) (n:Nat) (ht:0≤t∧t≤4294967295) (hn:n≤1000):tellN (titleF t n)=n∧tellT (titleF t n)=t:=by
 have h1:(titleF t n).l.drop 4=be 4 n++(be 4 t++(safeS++List.replicate 43 0)):=by
  rw[titleF,seal_drop (titleB_len _ _),titleB];simp only[List.append_assoc]
 refine ⟨by rw[tellN,h1,u32B_be _ (by omega)],?_⟩
 rw[tellT,h1,List.drop_left' (be_len _ _),u32B_be _ ht]
theorem title_cand {s:DS} {t:Int} {n:Nat} (ht:0≤t∧t≤4294967295) (hn:4≤n∧n≤1000) (hs:((2*n+2:Nat):Int)≤s.size) {B:Bst} (hB:B.has=true→B.t < t):candF s (t % 2).toNat (titleF t n) B=true:=by
 obtain ⟨h1,h2⟩:=title_tells t n ht hn.2
 rw[candF,h1,h2,mayF]
 have h3:(B.has=true→B.t < t):=hB
 cases hb:B.has with
 | false=>simp;omega
 | true=>have:=h3 hb;simp[this];omega
theorem cntR_up (s:DS) (hu:Up s) (h2:1 < s.size):cntF s=(if (cntStep s 1 (holdsF s 1) (cntStep s 0 (holdsF s 0) ⟨false,0,0⟩)).has then (opD (opD s),0,cntStep s 1 (holdsF s 1) (cntStep s 0 (holdsF s 0) ⟨false,0,0⟩)) else (opD (opD s),140,⟨false,0,0⟩)):=by
 have hu1:Up (opD s):=⟨hu.on,hu.fit⟩
 obtain ⟨a1,a2,a3⟩:=rd_up hu (k:=((0:Nat):Int)) (by omega)
 obtain ⟨b1,b2,b3⟩:=rd_up hu1 (k:=((1:Nat):Int)) (by show (0:Int)≤1∧(1:Int) < s.size;omega)
 rw[cntF,cntR,if_pos a1,a2,a3,cntR,if_pos b1,b2,b3,cntR]
 rfl
theorem cnt_able {s:DS} {n:Nat} {t:Int} {said:List (List UInt8)} {tail:List Blk} (h:LogOn s n t said tail):cntF s=(opD (opD s),0,⟨true,n,t⟩):=by
 have hn:=h.hn
 have hs:=h.size
 obtain ⟨h1,h2⟩:=title_tells t n h.ht hn.2
 rw[cntR_up s h.up (by omega)]
 have hti:=h.title
 have hot:=h.other
 rcases (show (t % 2).toNat=0∨(t % 2).toNat=1 by omega) with h0 | h0
 rw[h0]at hti hot
 have e0:cntStep s 0 (holdsF s 0) ⟨false,0,0⟩=⟨true,n,t⟩:=by
  have:=title_cand (s:=s) h.ht hn hs (B:=⟨false,0,0⟩) (fun h=>by cases h)
  rw[h0]at this
  rw[cntStep,show holdsF s 0=titleF t n from hti,if_pos this,h1,h2]
 have e1:cntStep s 1 (holdsF s 1) ⟨true,n,t⟩=⟨true,n,t⟩:=by
  rw[cntStep,if_neg]
  intro hc
  rw[candF,Bool.and_eq_true]at hc
  have h3:=hot hc.1
  have h4:t < tellT (holdsF s 1):=by simpa using hc.2
  have h5:tellT (holdsF s ((1 - 0:Nat):Int))=tellT (holdsF s 1):=rfl
  omega
 rw[e0,e1];rfl
 rw[h0]at hti hot
 obtain ⟨B,hB⟩:∃ B,B=cntStep s 0 (holdsF s 0) ⟨false,0,0⟩:=⟨_,rfl⟩
 rw[←hB]
 have hBt:B.has=true→B.t < t:=by
  rw[hB,cntStep]
  split
  rename_i hc
  intro _
  rw[candF,Bool.and_eq_true]at hc
  exact hot hc.1
  intro h;cases h
 have e1:cntStep s 1 (holdsF s 1) B=⟨true,n,t⟩:=by
  have:=title_cand (s:=s) h.ht hn hs (B:=B) hBt
  rw[h0]at this
  rw[cntStep,show holdsF s 1=titleF t n from hti,if_pos this,h1,h2]
 rw[e1];rfl
theorem field_up (fr:Nat):∀ (k i:Nat) (s:DS),Up s→((fr+i+k:Nat):Int)≤s.size→(fieldW fr k i s).2.1=0∧(fieldW fr k i s).2.2=(List.range k).map (fun a=>holdsF s ((fr+(i+a):Nat):Int))∧Up (fieldW fr k i s).1∧(fieldW fr k i s).1.loose=s.loose∧(fieldW fr k i s).1.size=s.size∧(fieldW fr k i s).1.arms=s.arms∧∀ j,holdsF (fieldW fr k i s).1 j=holdsF s j
 | 0,i,s,hu,_=>⟨rfl,rfl,hu,rfl,rfl,rfl,fun _=>rfl⟩
 | k+1,i,s,hu,hs=>by
  obtain ⟨a1,a2,a3⟩:=rd_up hu (k:=((fr+i:Nat):Int)) (by omega)
  obtain ⟨b1,b2,b3,b4,b5,b6,b7⟩:=field_up fr k (i+1) (opD s) ⟨hu.on,hu.fit⟩ (by show ((fr+(i+1)+k:Nat):Int)≤s.size;omega)
  rw[fieldW,if_pos a1,a2,a3]
  refine ⟨b1,?_,b3,b4,b5,b6,b7⟩
  show holdsF s _::_=_
  rw[b2,List.range_succ_eq_map,List.map_cons,List.map_map]
  congr 1
  apply List.map_congr_left
  intro a _
  show holdsF s _=holdsF s _
  congr 2;omega
theorem over_ne {xs:List Blk} {k:Nat} {j:Int} (h:∀ i,i < xs.length→j≠((k+i:Nat):Int)) (u:Blk):(findB j (wrs k xs)).getD u=u:=by
 refine over_out ?_ u
 by_cases h1:j < (k:Int)
 exact .inl h1
 refine .inr ?_
 by_cases h2:((k+xs.length:Nat):Int)≤j
 exact h2
 exact absurd (show j=((k+(j - k).toNat:Nat):Int) by omega) (h _ (by omega))
theorem LogOn.inner {s s':DS} {n:Nat} {t:Int} {said:List (List UInt8)} {tail:List Blk} (h:LogOn s n t said tail) (hu:Up s') (hl:s'.loose=[]) (hz:s'.size=s.size)
  (hh:∀ j:Int,(∀ i,i < n→endF t said≤i→j≠((fromN n t+i:Nat):Int))→holdsF s' j=holdsF s j):LogOn s' n t said ((fieldOf s' (fromN n t) n).drop (endF t said)):=by
 have hb:=from_bound t h.hn.2
 have hm:=Int.emod_lt_of_pos t (show (0:Int) < 2 by decide)
 have hm0:=Int.emod_nonneg t (show (2:Int)≠0 by decide)
 have hlen:=h.len
 refine ⟨hu,hl,h.hn,by rw[hz];exact h.size,h.ht,?_,?_,h.some_,h.short,?_,?_⟩
 rw[hh _ (fun i _ _=>by omega)];exact h.title
 have:=h.other
 unfold Below mayF at this⊢
 rw[hz,hh _ (fun i _ _=>by omega)];exact this
 have e:(fieldOf s' (fromN n t) n).take (endF t said)=laidF t said 0:=by
  have h2:(fieldOf s (fromN n t) n).take (endF t said)=laidF t said 0:=by rw[h.cur];exact List.take_left' rfl
  rw[←h2]
  apply List.ext_getElem?
  intro i
  rw[List.getElem?_take,List.getElem?_take]
  by_cases hi:i < endF t said
  rw[if_pos hi,if_pos hi,fieldOf_get _ _ _ _ (by omega),fieldOf_get _ _ _ _ (by omega),hh _ (fun a _ ha=>by omega)]
  rw[if_neg hi,if_neg hi]
 rw[←e,List.take_append_drop]
 intro i hi
 rw[hh _ (fun a ha _=>by have:=from_apart t ha hi;omega)];exact h.oth i hi
theorem LogOn.snoc {s:DS} {n:Nat} {t:Int} {said:List (List UInt8)} {rest:List Blk} {bs:List UInt8} (h:LogOn s n t said (leavesF t (said.length:Nat) bs++rest)) (hb:bs.length≤40000):LogOn s n t (said++[bs]) rest where
 up:=h.up
 loose:=h.loose
 hn:=h.hn
 size:=h.size
 ht:=h.ht
 title:=h.title
 other:=h.other
 some_:=by simp
 short:=fun b hm=>by
  rcases List.mem_append.1 hm with hm | hm
  exact h.short b hm
  obtain rfl:=List.mem_singleton.1 hm;exact hb
 cur:=by rw[laidF_snoc,List.append_assoc,Nat.zero_add];exact h.cur
 oth:=h.oth
theorem append_live {s:DS} {n:Nat} {t:Int} {said:List (List UInt8)} (h:Live s n t said) (bs:List UInt8) (hb:bs.length≤40000) (hr:endF t said+secN bs.length≤n) :
  ((layF s ((fromN n t+endF t said:Nat):Int) (leavesF t (said.length:Nat) bs)).2=0∧Live (layF s ((fromN n t+endF t said:Nat):Int) (leavesF t (said.length:Nat) bs)).1 n t (said++[bs])∧(s.arms.on=false→(layF s ((fromN n t+endF t said:Nat):Int) (leavesF t (said.length:Nat) bs)).1.arms.on=false))∨
  (s.arms.on=true∧(layF s ((fromN n t+endF t said:Nat):Int) (leavesF t (said.length:Nat) bs)).2=9∧(layF s ((fromN n t+endF t said:Nat):Int) (leavesF t (said.length:Nat) bs)).1.out=true∧∀ keep,Able (crashD keep (layF s ((fromN n t+endF t said:Nat):Int) (leavesF t (said.length:Nat) bs)).1) n t said∨Able (crashD keep (layF s ((fromN n t+endF t said:Nat):Int) (leavesF t (said.length:Nat) bs)).1) n t (said++[bs])):=by
 obtain ⟨tail,hL,hf⟩:=h
 have hfb:=from_bound t hL.hn.2
 have hlen:=hL.len
 have hsz:=hL.size
 have hn:=hL.hn
 have hfew:=hL.few
 obtain ⟨xs,hxs⟩:∃ xs,xs=leavesF t (said.length:Nat) bs:=⟨_,rfl⟩
 have hxl:xs.length=secN bs.length:=by rw[hxs,leavesF_len]
 rw[←hxs]
 have htl:∀ i,i < tail.length→tail[i]? = some (holdsF s ((fromN n t+endF t said+i:Nat):Int)):=fun i hi=>by
  have h1:=fieldOf_get s (fromN n t) n (endF t said+i) (by omega)
  rw[hL.cur,List.getElem?_append_right (by unfold endF;omega),show endF t said+i - (laidF t said 0).length=i from by unfold endF;omega]at h1
  rw[h1];congr 3;omega
 rcases lay_f xs s (fromN n t+endF t said) hL.up hL.loose (by omega) (by omega) with ⟨c1,c2,c3,c4,c5,c6⟩ | ⟨c0,c1,c2,c3,i,c4⟩
 refine .inl ⟨c1,?_,c5⟩
 have h1:=hL.inner c2 c3 c4 (fun j hj=>by rw[c6,over_ne (fun i hi=>by have:=hj (endF t said+i) (by omega) (by omega);omega)])
 have h2:=field_over (n:=n) (xs:=xs) (k:=endF t said) (by omega) c6
 have hk:((fieldOf s (fromN n t) n).take (endF t said)).length=endF t said:=by rw[List.length_take,fieldOf_len];omega
 rw[h2,List.append_assoc,List.drop_left' hk,hL.cur]at h1
 subst hxs
 refine ⟨_,h1.snoc hb,fun x hx=>hf x ?_⟩
 rw[List.drop_append,List.drop_of_length_le (by unfold endF;omega),qqF]at hx
 exact List.mem_of_mem_drop hx
 refine .inr ⟨c0,c1,c2,fun keep=>?_⟩
 obtain ⟨d1,d2,d3,d4,_⟩:=crash_any keep (layF s ((fromN n t+endF t said:Nat):Int) xs).1
 have hcl:=fun j=>crash_lay keep hL.loose c3 c4 j
 have h1:=hL.inner d1 d2 (d3.trans c3.size) (fun j hj=>by
  rcases hcl j with e | ⟨m,e1,e2⟩
  exact e
  have hm:=(List.getElem?_eq_some_iff.1 e2).1
  exact absurd (e1.trans (by congr 1;omega)) (hj (endF t said+m) (by omega) (by omega)))
 obtain ⟨tail',ht'⟩:∃ tail',tail'=(fieldOf (crashD keep (layF s ((fromN n t+endF t said:Nat):Int) xs).1) (fromN n t) n).drop (endF t said):=⟨_,rfl⟩
 rw[←ht']at h1
 have hlen':=h1.len
 have hmix:Mix tail xs tail':=by
  refine ⟨by omega,fun a x hx=>?_⟩
  have ha:a < tail'.length:=(List.getElem?_eq_some_iff.1 hx).1
  rw[ht',List.getElem?_drop,fieldOf_get _ _ _ _ (by omega)]at hx
  obtain rfl:=Option.some.inj hx
  rcases hcl ((fromN n t+(endF t said+a):Nat):Int) with e | ⟨m,e1,e2⟩
  rw[e,htl a (by omega)];left;congr 3;omega
  right;rw[←e2];congr 1;omega
 rw[hxs]at hmix
 rcases mix_entry hL.ht.2 (by omega) hb hf hmix (by rw[←hxs];omega) with ⟨rest,e,hr'⟩ | hne
 rw[e]at h1
 exact .inr (Live.able ⟨rest,h1.snoc hb,hr'⟩)
 refine .inl ⟨tail',h1,hne,fun x hx=>?_⟩
 obtain ⟨a,ha⟩:=List.getElem?_of_mem hx
 rcases hmix.2 a x ha with h2 | h2
 exact (hf x (List.mem_of_getElem? h2)).mono (by omega)
 have hm:a < secN bs.length:=by have:=(List.getElem?_eq_some_iff.1 h2).1;rw[leavesF_len]at this;exact this
 rw[leaves_get t _ bs a hm]at h2
 rw[←Option.some.inj h2]
 exact fresh_old _ t _ bs a hL.ht (by omega)
theorem LogOn.outer {s s':DS} {n:Nat} {t:Int} {said:List (List UInt8)} {tail:List Blk} (h:LogOn s n t said tail) (hu:Up s') (hl:s'.loose=[]) (hz:s'.size=s.size)
  (hh:∀ j:Int,(∀ i,i < n→j≠((fromN n (t+1)+i:Nat):Int))→holdsF s' j=holdsF s j) (ho:∀ i,i < n→Fresh (t+1) (holdsF s' ((fromN n (t+1)+i:Nat):Int))):LogOn s' n t said tail:=by
 have hb:=from_bound (t+1) h.hn.2
 have hm:=Int.emod_lt_of_pos t (show (0:Int) < 2 by decide)
 have hm0:=Int.emod_nonneg t (show (2:Int)≠0 by decide)
 refine ⟨hu,hl,h.hn,by rw[hz];exact h.size,h.ht,?_,?_,h.some_,h.short,?_,ho⟩
 rw[hh _ (fun i _=>by omega)];exact h.title
 have:=h.other
 unfold Below mayF at this⊢
 rw[hz,hh _ (fun i _=>by omega)];exact this
 rw[fieldOf_eq fun i hi=>hh _ (fun a ha=>by have:=from_apart t hi ha;omega)];exact h.cur
theorem laid_mem {t:Int} {x:Blk} : ∀ {said:List (List UInt8)} {j:Nat},x∈laidF t said j→∃ j' b k,x=leafF t j' b k
 | [],_,h=>by cases h
 | b::l,j,h=>by
  rw[laidF]at h
  rcases List.mem_append.1 h with h | h
  rw[leavesF]at h
  obtain ⟨k,_,hk⟩:=List.mem_map.1 h
  exact ⟨_,b,k,hk.symm⟩
  exact laid_mem h
theorem LogOn.turned {s s':DS} {n:Nat} {t:Int} {said:List (List UInt8)} {tail rest:List Blk} {bs:List UInt8} (h:LogOn s n t said tail) (hf:∀ x∈tail,Fresh (t+2) x) (hb:bs.length≤40000) (ht:t+1≤4294967295)
  (hcur:fieldOf s (fromN n (t+1)) n=leavesF (t+1) 0 bs++rest) (hu:Up s') (hl:s'.loose=[]) (hz:s'.size=s.size) (hti:holdsF s' (((t+1) % 2).toNat:Int)=titleF (t+1) n) (hh:∀ j:Int,j≠(((t+1) % 2).toNat:Int)→holdsF s' j=holdsF s j):LogOn s' n (t+1) [bs] rest:=by
 have hfb:=from_bound (t+1) h.hn.2
 have hfa:=from_bound t h.hn.2
 have h0:=h.ht
 have hm:((t+1) % 2).toNat=1 - (t % 2).toNat∧1 - ((t+1) % 2).toNat=(t % 2).toNat:=by omega
 refine ⟨hu,hl,h.hn,by rw[hz];exact h.size,by omega,hti,?_,by simp,fun b hm=>by obtain rfl:=List.mem_singleton.1 hm;exact hb,?_,fun i hi=>?_⟩
 rw[hm.2,hh _ (by omega),h.title]
 intro _
 rw[(title_tells t n h.ht h.hn.2).2];omega
 rw[fieldOf_eq fun i hi=>hh _ (by omega),hcur,laidF,laidF,List.append_nil];rfl
 rw[from_two,hh _ (by omega)]
 have hmem:holdsF s ((fromN n t+i:Nat):Int)∈laidF t said 0++tail:=by rw[←h.cur];exact List.mem_of_getElem? (fieldOf_get s (fromN n t) n i hi)
 rw[show t+1+1=t+2 from by omega]
 rcases List.mem_append.1 hmem with hm | hm
 obtain ⟨j',b,k,e⟩:=laid_mem hm
 rw[e];exact fresh_old _ t _ b k h.ht (by omega)
 exact hf _ hm
theorem chk_live {s : DS} {n : Nat} {t : Int} {said : List (List UInt8)} (h : Live s n t said) (bs : List UInt8) (hb : bs.length ≤ 40000) (hr : secN bs.length ≤ n) (ht : t + 1 ≤ 4294967295) :
    ((begF n (t + 1) bs s).2 = 0 ∧ Live (begF n (t + 1) bs s).1 n (t + 1) [bs] ∧ (s.arms.on = false → (begF n (t + 1) bs s).1.arms.on = false)) ∨
    (s.arms.on = true ∧ (begF n (t + 1) bs s).2 = 9 ∧ (begF n (t + 1) bs s).1.out = true ∧ ∀ keep, Able (crashD keep (begF n (t + 1) bs s).1) n t said ∨ Able (crashD keep (begF n (t + 1) bs s).1) n (t + 1) [bs]) := by
  obtain ⟨tail, hL, hf⟩ := h
  have hfb := from_bound (t + 1) hL.hn.2
  have hsz := hL.size
  have hn := hL.hn
  obtain ⟨xs, hxs⟩ : ∃ xs, xs = leavesF (t + 1) 0 bs := ⟨_, rfl⟩
  have hxl : xs.length = secN bs.length := by rw [hxs, leavesF_len]
  have hfx : ∀ m x, xs[m]? = some x → Fresh (t + 1) x := fun m x hx => by
    have hm : m < secN bs.length := by have := (List.getElem?_eq_some_iff.1 hx).1; omega
    rw [hxs, leaves_get _ _ bs m hm] at hx
    rw [← Option.some.inj hx]; exact fresh_zeroth _ _ bs m
  have hft : ∀ x ∈ tail, Fresh (t + 2) x := fun x hx => (hf x hx).mono (by omega)
  have hbeg : begF n (t + 1) bs s = if (layF s (fromN n (t + 1) : Nat) xs).2 = 0 then layF (layF s (fromN n (t + 1) : Nat) xs).1 (((t + 1) % 2).toNat : Nat) [titleF (t + 1) n] else layF s (fromN n (t + 1) : Nat) xs := by rw [hxs]; rfl
  rcases lay_f xs s (fromN n (t + 1)) hL.up hL.loose (by omega) (by omega) with ⟨c1, c2, c3, c4, c5, c6⟩ | ⟨c0, c1, c2, c3, i, c4⟩
  · rw [hbeg, if_pos c1]
    obtain ⟨s1, hs1⟩ : ∃ s1, s1 = (layF s (fromN n (t + 1) : Nat) xs).1 := ⟨_, rfl⟩
    rw [← hs1] at c2 c3 c4 c5 c6 ⊢
    have hL1 : LogOn s1 n t said tail := hL.outer c2 c3 c4 (fun j hj => by rw [c6, over_ne (fun i hi => hj i (by omega))]) (fun i hi => by
      rw [c6]
      by_cases h1 : i < xs.length
      · rw [over_in h1, List.getElem?_eq_getElem h1]; exact hfx i _ (List.getElem?_eq_getElem h1)
      · rw [over_out (.inr (by omega))]; exact hL.oth i hi)
    have hcur : fieldOf s1 (fromN n (t + 1)) n = xs ++ (fieldOf s (fromN n (t + 1)) n).drop xs.length := by
      have := field_over (s := s) (s' := s1) (fr := fromN n (t + 1)) (n := n) (k := 0) (xs := xs) (by omega) (fun j => by rw [c6]; rfl)
      rw [this, List.take_zero, qqF, Nat.zero_add]
    have hrest : ∀ x ∈ (fieldOf s (fromN n (t + 1)) n).drop xs.length, Fresh (t + 1) x := fun x hx => by
      obtain ⟨i, hi⟩ := List.getElem?_of_mem (List.mem_of_mem_drop hx)
      have hi2 : i < n := by have := (List.getElem?_eq_some_iff.1 hi).1; rw [fieldOf_len] at this; exact this
      rw [fieldOf_get _ _ _ _ hi2] at hi
      rw [← Option.some.inj hi]; exact hL.oth i hi2
    have hm2 : ((t + 1) % 2).toNat < 2 := by omega
    rcases lay_f [titleF (t + 1) n] s1 ((t + 1) % 2).toNat c2 c3 (by omega) (by simp only [List.length_singleton]; omega) with ⟨e1, e2, e3, e4, e5, e6⟩ | ⟨e0, e1, e2, e3, i, e4⟩
    · refine .inl ⟨e1, ⟨_, hL1.turned hft hb ht (by rw [← hxs]; exact hcur) e2 e3 e4 ?_ ?_, hrest⟩, fun h => e5 (c5 h)⟩
      · have := over_in (xs := [titleF (t + 1) n]) (k := ((t + 1) % 2).toNat) (i := 0) (by simp) (holdsF s1 ((((t + 1) % 2).toNat : Nat) : Int))
        rw [e6]; exact this
      · intro j hj
        rw [e6, over_ne (fun i hi => by have : i = 0 := by simpa using hi
                                        subst this; exact hj)]
    · refine .inr ⟨?_, e1, e2, fun keep => ?_⟩
      · cases hx : s.arms.on with
        | true => rfl
        | false => rw [c5 hx] at e0; cases e0
      · obtain ⟨d1, d2, d3, d4, _⟩ := crash_any keep (layF s1 (((t + 1) % 2).toNat : Nat) [titleF (t + 1) n]).1
        have hcl := fun j => crash_lay keep c3 e3 e4 j
        have hne : ∀ j : Int, j ≠ (((t + 1) % 2).toNat : Int) → holdsF (crashD keep (layF s1 (((t + 1) % 2).toNat : Nat) [titleF (t + 1) n]).1) j = holdsF s1 j := fun j hj => by
          rcases hcl j with e | ⟨m, q1, q2⟩
          · exact e
          · have hm : m = 0 := by have := (List.getElem?_eq_some_iff.1 q2).1; simpa using this
            subst hm; exact absurd q1 hj
        rcases hcl (((t + 1) % 2).toNat : Int) with e | ⟨m, q1, q2⟩
        · refine .inl (Live.able ⟨tail, hL1.same d1 d2 (d3.trans e3.size) (fun j => ?_), hf⟩)
          by_cases hj : j = (((t + 1) % 2).toNat : Int)
          · rw [hj]; exact e
          · exact hne j hj
        · have hm : m = 0 := by have := (List.getElem?_eq_some_iff.1 q2).1; simpa using this
          subst hm
          exact .inr (Live.able ⟨_, hL1.turned hft hb ht (by rw [← hxs]; exact hcur) d1 d2 (d3.trans e3.size) (Option.some.inj q2).symm hne, hrest⟩)
  · rw [hbeg, if_neg (by rw [c1]; decide)]
    refine .inr ⟨c0, c1, c2, fun keep => .inl ?_⟩
    obtain ⟨d1, d2, d3, d4, _⟩ := crash_any keep (layF s (fromN n (t + 1) : Nat) xs).1
    have hcl := fun j => crash_lay keep hL.loose c3 c4 j
    refine Live.able ⟨tail, hL.outer d1 d2 (d3.trans c3.size) (fun j hj => ?_) (fun i hi => ?_), hf⟩
    · rcases hcl j with e | ⟨m, q1, q2⟩
      · exact e
      · have hm := (List.getElem?_eq_some_iff.1 q2).1
        exact absurd q1 (hj m (by omega))
    · rcases hcl ((fromN n (t + 1) + i : Nat) : Int) with e | ⟨m, q1, q2⟩
      · rw [e]; exact hL.oth i hi
      · exact hfx m _ q2
theorem find_zero {j:Int} : ∀ {ws:List LWr},(∀ y∈ws,y.b=zB)→(findB j ws).getD zB=zB∧((∃ y∈ws,y.at_=j)→findB j ws=some zB)∧((∀ y∈ws,y.at_≠j)→findB j ws=none)
 | [],_=>⟨rfl,fun ⟨_,h,_⟩=>by (cases h),fun _=>rfl⟩
 | x::l,h=>by
  obtain ⟨h1,h2,h3⟩:=find_zero (j:=j) (ws:=l) (fun y hy=>h y (by simp[hy]))
  have hx:=h x (by simp)
  rw[findB]
  by_cases e:x.at_=j
  rw[if_pos e,hx]
  refine ⟨?_,fun _=>?_,fun hn=>absurd e (hn x (by simp))⟩
  cases hf:findB j l with
  | none=>rfl
  | some u=>rw[hf]at h1;exact h1
  cases hf:findB j l with
  | none=>rfl
  | some u=>rw[hf]at h1;show some u=some zB;rw[show u=zB from h1]
  rw[if_neg e,Option.or_none]
  refine ⟨h1,fun ⟨y,hy,he⟩=>?_,fun hn=>h3 fun y hy=>hn y (by simp[hy])⟩
  rcases List.mem_cons.1 hy with rfl | hy
  exact absurd he e
  exact h2 ⟨y,hy,he⟩
theorem blk_zero {x:Blk} (h:x.l=zB.l):x=zB:=Blk.ext' h
theorem clr_w (fr : Nat) : ∀ (xs : List Blk) (i : Nat) (sy : Bool) (s : DS), Up s → ((fr + i + xs.length : Nat) : Int) ≤ s.size →
    Alike s (clrW fr xs i sy s).1 ∧ ∃ ws : List LWr, (clrW fr xs i sy s).1.loose = s.loose ++ ws ∧ (∀ y ∈ ws, y.b = zB ∧ ∃ m, m < xs.length ∧ y.at_ = ((fr + i + m : Nat) : Int)) ∧
      (((clrW fr xs i sy s).2.1 = 0 ∧ (clrW fr xs i sy s).1.out = false ∧ (s.arms.on = false → (clrW fr xs i sy s).1.arms.on = false) ∧ (∀ (m : Nat) (x : Blk), xs[m]? = some x → x = zB ∨ ∃ y ∈ ws, y.at_ = ((fr + i + m : Nat) : Int)) ∧ (clrW fr xs i sy s).2.2 = (sy || !ws.isEmpty)) ∨
       (s.arms.on = true ∧ (clrW fr xs i sy s).2.1 = 9 ∧ (clrW fr xs i sy s).1.out = true))
  | [], i, sy, s, hu, _ => by
    rw [clrW]
    exact ⟨⟨rfl, rfl, rfl⟩, [], by simp, fun y hy => by (cases hy), .inl ⟨rfl, hu.on, id, fun m x h => by (simp at h), by simp⟩⟩
  | x :: xs, i, sy, s, hu, hs => by
    simp only [qqA] at hs
    rw [clrW]
    by_cases hz : x.l = zB.l
    · rw [if_pos hz]
      obtain ⟨ha, ws, hw, hy, hc⟩ := clr_w fr xs (i + 1) sy s hu (by omega)
      refine ⟨ha, ws, hw, fun y h => ⟨(hy y h).1, ?_⟩, ?_⟩
      · obtain ⟨m, h1, h2⟩ := (hy y h).2
        exact ⟨m + 1, by simp only [qqA]; omega, by rw [h2]; congr 1; omega⟩
      · rcases hc with ⟨c1, c2, c3, c4, c5⟩ | hc
        · refine .inl ⟨c1, c2, c3, fun m u h => ?_, c5⟩
          cases m with
          | zero => obtain rfl : x = u := by simpa using h
                    exact .inl (blk_zero hz)
          | succ m =>
            rcases c4 m u (by simpa using h) with h1 | ⟨y, h1, h2⟩
            · exact .inl h1
            · exact .inr ⟨y, h1, by rw [h2]; congr 1; omega⟩
        · exact .inr hc
    · rw [if_neg hz]
      rcases asked_up hu (k := ((fr + i : Nat) : Int)) (by omega) (fun s => writeD s ((fr + i : Nat) : Int) zB) with ⟨h1, h2, h3⟩ | ⟨h1, h2, h3⟩
      · rw [if_pos h2]
        have e : wrD s ((fr + i : Nat) : Int) zB = opD (writeD { s with arms := (metF s.arms).2 } ((fr + i : Nat) : Int) zB) := h3
        have hu1 : Up (wrD s ((fr + i : Nat) : Int) zB) := by rw [e]; exact ⟨hu.on, hu.fit⟩
        have hs1 : (wrD s ((fr + i : Nat) : Int) zB).size = s.size := by rw [e]; rfl
        have hl : (wrD s ((fr + i : Nat) : Int) zB).loose = s.loose ++ [⟨((fr + i : Nat) : Int), zB⟩] := by rw [e]; rfl
        have harm : s.arms.on = false → (wrD s ((fr + i : Nat) : Int) zB).arms.on = false := fun h => by rw [e]; exact met_stays h
        obtain ⟨ha, ws, hw, hy, hc⟩ := clr_w fr xs (i + 1) true (wrD s ((fr + i : Nat) : Int) zB) hu1 (by rw [hs1]; omega)
        refine ⟨⟨ha.size.trans hs1, ha.fails.trans (by rw [e]; rfl), ha.firm.trans (by rw [e]; rfl)⟩, ⟨((fr + i : Nat) : Int), zB⟩ :: ws, by rw [hw, hl, List.append_assoc]; rfl, fun y h => ?_, ?_⟩
        · rcases List.mem_cons.1 h with rfl | h
          · exact ⟨rfl, 0, by simp, rfl⟩
          · obtain ⟨m, q1, q2⟩ := (hy y h).2
            exact ⟨(hy y h).1, m + 1, by simp only [qqA]; omega, by rw [q2]; congr 1; omega⟩
        · rcases hc with ⟨c1, c2, c3, c4, c5⟩ | ⟨c0, c1, c2⟩
          · refine .inl ⟨c1, c2, fun h => c3 (harm h), fun m u h => ?_, by rw [c5]; simp⟩
            cases m with
            | zero => exact .inr ⟨_, List.mem_cons_self .., rfl⟩
            | succ m =>
              rcases c4 m u (by simpa using h) with h1 | ⟨y, h1, h2⟩
              · exact .inl h1
              · exact .inr ⟨y, List.mem_cons_of_mem _ h1, by rw [h2]; congr 1; omega⟩
          · refine .inr ⟨?_, c1, c2⟩
            cases hx : s.arms.on with
            | true => rfl
            | false => rw [harm hx] at c0; cases c0
      · rw [if_neg (by rw [h2]; decide)]
        have e : wrD s ((fr + i : Nat) : Int) zB = { s with arms := (metF s.arms).2, out := true } := h3
        refine ⟨by rw [e]; exact ⟨rfl, rfl, rfl⟩, [], by rw [e]; simp, fun y hy => by (cases hy), .inr ⟨?_, h2, by rw [e]⟩⟩
        cases hx : s.arms.on with
        | true => rfl
        | false => rw [hit_off hx] at h1; cases h1
theorem open_reads {s:DS} {n:Nat} {t:Int} {said:List (List UInt8)} {tail:List Blk} (h:LogOn s n t said tail) (hn:NoEntry t (said.length:Nat) tail) :
  ∃ s3,Up s3∧s3.loose=[]∧s3.size=s.size∧s3.arms=s.arms∧(∀ j,holdsF s3 j=holdsF s j)∧LogOn s3 n t said tail∧openF s=if (clrR (clrW (fromN n t) tail (endF t said) false s3)).2=0 then ((clrR (clrW (fromN n t) tail (endF t said) false s3)).1,0,⟨n,t,said,endF t said⟩) else ((clrR (clrW (fromN n t) tail (endF t said) false s3)).1,(clrR (clrW (fromN n t) tail (endF t said) false s3)).2,noOW):=by
 have hb:=from_bound t h.hn.2
 have hsz:=h.size
 obtain ⟨b1,b2,b3,b4,b5,b6,b7⟩:=field_up (fromN n t) n 0 (opD (opD s)) ⟨h.up.on,h.up.fit⟩ (by show ((fromN n t+0+n:Nat):Int)≤s.size;omega)
 have hf:(fieldW (fromN n t) n 0 (opD (opD s))).2.2=laidF t said 0++tail:=by
  rw[b2,←h.cur,fieldOf]
  apply List.map_congr_left
  intro a _
  show holdsF s _=_
  rw[Nat.zero_add]
 have hrd:readF t (laidF t said 0++tail) (laidF t said 0++tail).length 0 0=(said,endF t said):=by
  have:=readF_laid tail said [] 0 (laidF t said 0++tail).length h.short (by rw[List.length_append];exact Nat.le_refl _) (by rw[Nat.zero_add];exact hn)
  simpa [endF] using this
 refine ⟨(fieldW (fromN n t) n 0 (opD (opD s))).1,b3,b4.trans h.loose,b5,b6,b7,h.same b3 (b4.trans h.loose) b5 b7,?_⟩
 have hl0:(fieldW (fromN n t) n 0 (opD (opD s))).1.loose=[]:=b4.trans h.loose
 rw[openF,cnt_able h]
 show (if (0:Int)=0 then openB ((n:Int).toNat) t (opD (opD s)) else _)=_
 rw[if_pos rfl,Int.toNat_natCast,openB,if_pos b1,hf,openC,hrd]
 simp only[]
 rw[if_neg h.some_,clrF,hl0,show (laidF t said 0++tail).drop (endF t said)=tail from List.drop_left' rfl]
 rfl
theorem open_able {s:DS} {n:Nat} {t:Int} {said:List (List UInt8)} (h:Able s n t said) :
  ((openF s).2.1=0∧Clean (openF s).1 n t said∧(openF s).2.2=⟨n,t,said,endF t said⟩∧(s.arms.on=false→(openF s).1.arms.on=false))∨
  (s.arms.on=true∧(openF s).2.1=9∧(openF s).1.out=true∧∀ keep,Able (crashD keep (openF s).1) n t said):=by
 obtain ⟨tail,hL,hno,hfr⟩:=h
 obtain ⟨s3,u3,l3,z3,a3,h3,hL3,ho⟩:=open_reads hL hno
 have hb:=from_bound t hL.hn.2
 have hsz:=hL3.size
 have hlen:=hL.len
 have hfew:=hL.few
 have hn:=hL.hn
 have htl:∀ i,i < tail.length→tail[i]? = some (holdsF s3 ((fromN n t+endF t said+i:Nat):Int)):=fun i hi=>by
  have h1:=fieldOf_get s3 (fromN n t) n (endF t said+i) (by omega)
  rw[hL3.cur,List.getElem?_append_right (by unfold endF;omega),show endF t said+i - (laidF t said 0).length=i from by unfold endF;omega]at h1
  rw[h1];congr 3;omega
 obtain ⟨ha,ws,hw,hy,hc⟩:=clr_w (fromN n t) tail (endF t said) false s3 u3 (by omega)
 rw[l3,qqF]at hw
 -- what is cut on the way
 have cut:∀ (r:DS) (keep:List Bool),Alike s3 r→r.loose=ws→Able (crashD keep r) n t said:=fun r keep har hrl=>by
  obtain ⟨d1,d2,d3,d4,d5⟩:=crash_any keep r
  have hj:∀ j,holdsF (crashD keep r) j=holdsF s3 j∨∃ m,m < tail.length∧j=((fromN n t+endF t said+m:Nat):Int)∧holdsF (crashD keep r) j=zB:=fun j=>by
   rcases d5 j with e | ⟨y,q1,q2,q3⟩
   ·rw[e,har.firm,holds_firm l3];exact .inl rfl
   ·rw[hrl]at q1
    obtain ⟨p1,m,p2,p3⟩:=hy y q1
    exact .inr ⟨m,p2,q2.symm.trans p3,by rw[q3,p1]⟩
  have h1:=hL3.inner d1 d2 (d3.trans har.size) (fun j hj2=>by
   rcases hj j with e | ⟨m,q1,q2,_⟩
   ·exact e
   ·exact absurd (q2.trans (by congr 1;omega)) (hj2 (endF t said+m) (by omega) (by omega)))
  have hmix:∀ (i:Nat) (x:Blk),((fieldOf (crashD keep r) (fromN n t) n).drop (endF t said))[i]? = some x→tail[i]? = some x∨x=zB:=fun i x hx=>by
   have hi:i < tail.length:=by
    have:=(List.getElem?_eq_some_iff.1 hx).1
    rw[List.length_drop,fieldOf_len]at this;omega
   rw[List.getElem?_drop,fieldOf_get _ _ _ _ (by omega)]at hx
   obtain rfl:=Option.some.inj hx
   rcases hj ((fromN n t+(endF t said+i):Nat):Int) with e | ⟨_,_,_,e⟩
   ·rw[e,htl i hi];left;congr 3;omega
   ·exact .inr e
  refine ⟨_,h1,zero_entry hL.ht.2 (by omega) hno hmix,fun x hx=>?_⟩
  obtain ⟨i,hi⟩:=List.getElem?_of_mem hx
  rcases hmix i x hi with h2 | h2
  ·exact hfr x (List.mem_of_getElem? h2)
  ·rw[h2];exact fresh_zero _
 -- what an opening that is not cut leaves
 have done:∀ (r:DS),Up r→r.loose=[]→r.size=s3.size→(∀ j,holdsF r j=(findB j ws).getD (holdsF s3 j))→(∀ (m:Nat) (x:Blk),tail[m]? = some x→x=zB∨∃ y∈ws,y.at_=((fromN n t+endF t said+m:Nat):Int))→Clean r n t said:=fun r hur hlr hzr hhr hall=>by
  have h1:=hL3.inner hur hlr hzr (fun j hj2=>by
   rw[hhr,(find_zero (j:=j) fun y hyy=>(hy y hyy).1).2.2 (fun y hyy e=>by
    obtain ⟨_,m,p2,p3⟩:=hy y hyy
    exact hj2 (endF t said+m) (by omega) (by omega) (e.symm.trans (p3.trans (by congr 1;omega))))];rfl)
  refine ⟨tail.length,?_⟩
  have e:(fieldOf r (fromN n t) n).drop (endF t said)=List.replicate tail.length zB:=by
   apply List.ext_getElem?
   intro i
   rw[List.getElem?_drop,List.getElem?_replicate]
   by_cases hi:i < tail.length
   ·rw[if_pos hi,fieldOf_get _ _ _ _ (by omega),hhr]
    rcases hall i _ (htl i hi) with q | ⟨y,q1,q2⟩
    ·congr 1
     have hz:=find_zero (j:=((fromN n t+(endF t said+i):Nat):Int)) fun y hyy=>(hy y hyy).1
     rw[show (fromN n t+(endF t said+i):Nat)=fromN n t+endF t said+i from by omega,q,←show (fromN n t+(endF t said+i):Nat)=fromN n t+endF t said+i from by omega]
     exact hz.1
    ·congr 1
     rw[(find_zero fun y hyy=>(hy y hyy).1).2.1 ⟨y,q1,q2.trans (by congr 1;omega)⟩];rfl
   ·rw[if_neg hi,List.getElem?_eq_none (by rw[fieldOf_len];omega)]
  rw[e]at h1
  exact h1
 rcases hc with ⟨c1,c2,c3,c4,c5⟩ | ⟨c0,c1,c2⟩
 ·have hur:Up (clrW (fromN n t) tail (endF t said) false s3).1:=⟨c2,by rw[ha.fails];exact u3.fit⟩
  cases hws:ws.isEmpty with
  | true=>
   have hw0:ws=[]:=List.isEmpty_iff.1 hws
   have hr:clrR (clrW (fromN n t) tail (endF t said) false s3)=((clrW (fromN n t) tail (endF t said) false s3).1,0):=by
    rw[clrR,if_pos c1,c5,hws,if_neg (by simp)]
   rw[ho,hr,if_pos rfl]
   refine .inl ⟨rfl,done _ hur (by rw[hw,hw0]) ha.size (fun j=>?_) c4,rfl,fun h=>c3 (by rw[a3];exact h)⟩
   rw[hw0,holds_firm (by rw[hw,hw0]),ha.firm,holds_firm l3];rfl
  | false=>
   have hr:clrR (clrW (fromN n t) tail (endF t said) false s3)=(syD (clrW (fromN n t) tail (endF t said) false s3).1,askE (clrW (fromN n t) tail (endF t said) false s3).1 0 true):=by
    rw[clrR,if_pos c1,c5,hws,if_pos (by simp)]
   rcases sy_up hur (by rw[ha.size,z3];have:=hL.size;omega) with ⟨d1,d2,d3,d4,d5,d6,d7⟩ | ⟨d0,d1,d2,d3,d4⟩
   ·rw[ho,hr,if_pos d1]
    refine .inl ⟨rfl,done _ ⟨d2,by rw[d6];exact hur.fit⟩ d3 (d5.trans ha.size) (fun j=>?_) c4,rfl,fun h=>d7 (c3 (by rw[a3];exact h))⟩
    show holdsF (syD _) j=_
    rw[d4,holdsF,hw,ha.firm,holds_firm l3]
    cases findB j ws <;> rfl
   ·rw[ho,hr,if_neg (by rw[d1];show ¬(9:Int)=0;decide)]
    refine .inr ⟨?_,d1,d2,fun keep=>cut _ keep ⟨d4.size.trans ha.size,d4.fails.trans ha.fails,d4.firm.trans ha.firm⟩ (d3.trans hw)⟩
    cases hx:s.arms.on with
    | true=>rfl
    | false=>rw[c3 (by rw[a3];exact hx)]at d0;cases d0
 ·have hr:clrR (clrW (fromN n t) tail (endF t said) false s3)=((clrW (fromN n t) tail (endF t said) false s3).1,9):=by
   rw[clrR,if_neg (by rw[c1];decide),c1]
  rw[ho,hr,if_neg (by show ¬(9:Int)=0;decide)]
  exact .inr ⟨by rw[←a3];exact c0,rfl,c2,fun keep=>cut _ keep ha hw⟩
theorem format_live (n : Nat) (hn : 4 ≤ n ∧ n ≤ 1000) : (fmtF n (newD ((2 * n + 2 : Nat) : Int))).2 = 0 ∧ Live (fmtF n (newD ((2 * n + 2 : Nat) : Int))).1 n 0 [[]] ∧ (fmtF n (newD ((2 * n + 2 : Nat) : Int))).1.arms.on = false := by
  obtain ⟨s0, hs0⟩ : ∃ s0, s0 = newD ((2 * n + 2 : Nat) : Int) := ⟨_, rfl⟩
  rw [← hs0]
  have hu0 : Up s0 := by rw [hs0]; exact ⟨rfl, rfl⟩
  have hz0 : s0.size = ((2 * n + 2 : Nat) : Int) := by rw [hs0]; rfl
  have ha0 : s0.arms.on = false := by rw [hs0]; rfl
  have hh0 : ∀ j, holdsF s0 j = zB := fun j => by rw [hs0]; rfl
  have off : ∀ {s : DS}, s.arms.on = false → ¬ s.arms.on = true := fun h h2 => by rw [h] at h2; cases h2
  rcases lay_f (List.replicate (2 * n + 2) zB) s0 0 hu0 (by rw [hs0]; rfl) (by omega) (by rw [List.length_replicate]; omega) with ⟨c1, c2, c3, c4, c5, c6⟩ | ⟨c0, _⟩
  · replace c1 : (layF s0 0 (List.replicate (2 * n + 2) zB)).2 = 0 := c1
    have hfm : fmtF n s0 = begF n 0 [] (layF s0 0 (List.replicate (2 * n + 2) zB)).1 := by rw [fmtF, if_pos c1]
    rw [hfm]
    obtain ⟨s1, hs1⟩ : ∃ s1, s1 = (layF s0 0 (List.replicate (2 * n + 2) zB)).1 := ⟨_, rfl⟩
    replace c2 : Up s1 := by rw [hs1]; exact c2
    replace c3 : s1.loose = [] := by rw [hs1]; exact c3
    replace c4 : s1.size = s0.size := by rw [hs1]; exact c4
    replace c5 : s1.arms.on = false := by rw [hs1]; exact c5 ha0
    have hh1 : ∀ j, holdsF s1 j = zB := fun j => by
      rw [hs1]
      have := c6 j
      rw [hh0, wrs_find] at this
      refine Eq.trans this ?_
      split
      · rw [List.getElem?_replicate]; split <;> rfl
      · rfl
    rw [← hs1]
    have hxl : (leavesF 0 0 []).length = 1 := rfl
    rcases lay_f (leavesF 0 0 []) s1 2 c2 c3 (by omega) (by rw [hxl]; omega) with ⟨d1, d2, d3, d4, d5, d6⟩ | ⟨d0, _⟩
    · have h2n : fromN n 0 = 2 := by simp [fromN]
      replace d1 : (layF s1 ((2 : Nat) : Int) (leavesF 0 0 [])).2 = 0 := d1
      have hbg : begF n 0 [] s1 = layF (layF s1 ((2 : Nat) : Int) (leavesF 0 0 [])).1 (((0 : Int) % 2).toNat : Nat) [titleF 0 n] := by
        show (if (layF s1 (fromN n 0 : Nat) (leavesF 0 0 [])).2 = 0 then layF (layF s1 (fromN n 0 : Nat) (leavesF 0 0 [])).1 (((0 : Int) % 2).toNat : Nat) [titleF 0 n] else layF s1 (fromN n 0 : Nat) (leavesF 0 0 [])) = _
        rw [h2n]; exact if_pos d1
      rw [hbg]
      obtain ⟨s2, hs2⟩ : ∃ s2, s2 = (layF s1 ((2 : Nat) : Int) (leavesF 0 0 [])).1 := ⟨_, rfl⟩
      replace d2 : Up s2 := by rw [hs2]; exact d2
      replace d3 : s2.loose = [] := by rw [hs2]; exact d3
      replace d4 : s2.size = s1.size := by rw [hs2]; exact d4
      replace d5 : s2.arms.on = false := by rw [hs2]; exact d5 c5
      replace d6 : ∀ j, holdsF s2 j = (findB j (wrs 2 (leavesF 0 0 []))).getD (holdsF s1 j) := fun j => by rw [hs2]; exact d6 j
      rw [← hs2]
      rcases lay_f [titleF 0 n] s2 0 d2 d3 (by omega) (by simp only [List.length_singleton]; omega) with ⟨e1, e2, e3, e4, e5, e6⟩ | ⟨e0, _⟩
      · have h0 : holdsF (layF s2 (((0 : Int) % 2).toNat : Nat) [titleF 0 n]).1 0 = titleF 0 n := by
          have := e6 0
          exact this
        have hj : ∀ j : Int, j ≠ 0 → holdsF (layF s2 (((0 : Int) % 2).toNat : Nat) [titleF 0 n]).1 j = holdsF s2 j := fun j hj => by
          have := e6 j
          rw [over_ne (fun i hi => by have : i = 0 := by simpa using hi
                                      subst this; exact hj)] at this
          exact this
        refine ⟨e1, ⟨List.replicate (n - 1) zB, ⟨e2, e3, hn, ?_, by omega, h0, ?_, by simp, fun b hb => ?_, ?_, fun i hi => ?_⟩, fun x hx => ?_⟩, e5 d5⟩
        · have : (layF s2 (((0 : Int) % 2).toNat : Nat) [titleF 0 n]).1.size = s2.size := e4
          rw [this]; omega
        · rw [hj _ (by decide), d6, over_ne (fun i hi => by rw [hxl] at hi; omega), hh1]
          intro hb
          rw [show tellN zB = 0 from by decide] at hb
          simp [mayF] at hb
        · obtain rfl := List.mem_singleton.1 hb; simp
        · have h1 := field_over (s := s1) (s' := s2) (fr := 2) (n := n) (k := 0) (xs := leavesF 0 0 []) (by rw [hxl]; omega) (fun j => d6 j)
          rw [h2n, fieldOf_eq fun i hi => hj _ (by omega), h1, List.take_zero, qqF, laidF, laidF, List.append_nil]
          congr 1
          rw [hxl, fieldOf, show (fun i => holdsF s1 ((2 + i : Nat) : Int)) = fun _ => zB from funext fun i => hh1 _]
          rw [List.map_const', List.length_range, List.drop_replicate]
        · rw [hj _ (by have := from_bound (0 + 1) (n := n) hn.2; omega), d6, over_ne (fun a ha => by rw [hxl] at ha; have := from_apart 0 (n := n) (i := a) (j := i) (by omega) hi; rw [h2n] at this; omega), hh1]
          exact fresh_zero _
        · rw [(List.mem_replicate.1 hx).2]; exact fresh_zero _
      · exact absurd e0 (off d5)
    · exact absurd d0 (off c5)
  · exact absurd c0 (off ha0)
theorem beq_c (p q:Option Addr) (c e:Nat) (xs ys:List UInt8) (_hl:xs.length≤1000000∧ys.length≤1000000) (w0:World) (f1:Stable (fun _=>False) w0 (GlF p xs)) (f2:Stable (fun _=>False) w0 (GlF q ys)) :
  Ret Tryz.prog 42 [.slice p xs.length c,.slice q ys.length e] w0 (fun _=>False) fun v _=>v=.bool (decide (xs=ys)):=by
 refine enter Tryz.func42 rfl rfl (Wd.begin (fs:=[SlF p (encL xs),SlF q (encL ys)]) (by simp;exact ⟨f1.imp fun _ h=>h.1,f2.imp fun _ h=>h.1⟩)) (fun a S=>?_)
 simp only[Tryz.ntmps42,qqA,qqB,Nat.reduceAdd,Nat.reduceSub,qqC,qqD,qqE,qqF]at S
 refine kS (kR (sq S ?_));clear S;intro a S;refine kN (xtn (kS (kR ?_)));(iterate 6 (refine sq S ?_;clear S;intro a S));refine kN (xtn (kT ?_))
 refine end1 S (fun _=>?_)
 rfl
abbrev bsL (ys:List LBy):List (List UInt8):=ys.map LBy.bs
theorem told_get {came:List LBy} {i:Nat} {z:Nat × LBy} (h:(toldL came)[i]? = some z):i < came.length∧z=(i+1,nthG came i):=by
 rw[toldL,List.getElem?_map]at h
 have hi:i < came.length:=by
  cases hr:(List.range came.length)[i]? with
  | none=>rw[hr]at h;cases h
  | some a=>have:=(List.getElem?_eq_some_iff.1 hr).1;simpa using this
 rw[List.getElem?_range hi]at h
 exact ⟨hi,(Option.some.inj h).symm⟩
structure LG where
 m:Nat
 p:Option Addr
 c:Nat
 s:DS
 q:Option Addr
 e:Nat
 x:WS
abbrev lgI (b g:Nat) (L:LG):Wk.Item:=both (dkI b L.m L.p L.c L.s) (walI g b L.q L.e L.x)
structure LgSays (L:LG) (said:List (List UInt8)):Prop where
 says:bsL L.x.said=said
 some_:said≠[]
 few:said.length≤1000
 short:∀ b∈said,b.length≤40000
structure LgOk (L:LG) (n:Nat) (t:Int) (said:List (List UInt8)):Prop where
 num:L.x.n=n
 turn:L.x.turn=t
 says:bsL L.x.said=said
 fin:L.x.fin=endF t said
 broken:L.x.broken=false
 live:Live L.s n t said
theorem lg_cap {b g:Nat} {L:LG} {w:World} (h:(lgI b g L).holds w):L.x.said.length≤L.e:=own_le h.2.1.2.1.1
theorem allBy_ent {ys:List LBy} {w:World} (h:(entI ys).holds w):Stable (fun _=>False) w (AllBy ys):=fun _w' ha y hy=>gl_loc (fun ad hp=>ha.blk ((h y hy).1 ad hp) (fun h=>h)) (h y hy).2
theorem begF_loose (n:Nat) (t:Int) (bs:List UInt8) (hb:bs.length≤40000) (s:DS):(begF n t bs s).1.loose.length≤s.loose.length+840:=by
 have h1:=layF_loose s (fromN n t:Nat) (leavesF t 0 bs)
 have h2:=layF_loose (layF s (fromN n t:Nat) (leavesF t 0 bs)).1 ((t % 2).toNat:Nat) [titleF t n]
 have h3:=secN_le _ hb
 rw[leavesF_len]at h1
 simp only[List.length_singleton]at h2
 have e:begF n t bs s=if (layF s (fromN n t:Nat) (leavesF t 0 bs)).2=0 then layF (layF s (fromN n t:Nat) (leavesF t 0 bs)).1 ((t % 2).toNat:Nat) [titleF t n] else layF s (fromN n t:Nat) (leavesF t 0 bs):=rfl
 rw[e]
 split <;> omega
theorem clrW_loose (fr:Nat):∀ (xs:List Blk) (i:Nat) (sy:Bool) (s:DS),(clrW fr xs i sy s).1.loose.length≤s.loose.length+xs.length
 | [],_,_,_=>Nat.le_refl _
 | x::xs,i,sy,s=>by
  rw[clrW,qqA]
  split
  have:=clrW_loose fr xs (i+1) sy s;omega
  split
  have h1:=clrW_loose fr xs (i+1) true (wrD s ((fr+i:Nat):Int) zB)
  have h2:=wrD_loose s ((fr+i:Nat):Int) zB
  omega
  have h2:=wrD_loose s ((fr+i:Nat):Int) zB
  show (wrD s ((fr+i:Nat):Int) zB).loose.length≤_;omega
theorem fieldW_same (fr:Nat):∀ (k i:Nat) (s:DS),(fieldW fr k i s).1.loose=s.loose∧(fieldW fr k i s).2.2.length≤k
 | 0,_,_=>⟨rfl,Nat.le_refl _⟩
 | k+1,i,s=>by
  rw[fieldW]
  split
  obtain ⟨h1,h2⟩:=fieldW_same fr k (i+1) (rdD s ((fr+i:Nat):Int))
  exact ⟨h1.trans (rdD_loose _ _),by simp only[qqA];omega⟩
  exact ⟨rdD_loose _ _,Nat.zero_le _⟩
theorem clrF_loose (fr fin:Nat) (f:List Blk) (s:DS):(clrF fr fin f s).1.loose.length≤s.loose.length+f.length:=by
 have a1:=clrW_loose fr (f.drop fin) fin (decide (0 < s.loose.length)) s
 rw[List.length_drop]at a1
 have a2:=syD_loose (clrW fr (f.drop fin) fin (decide (0 < s.loose.length)) s).1
 rw[clrF,clrR]
 split
 split
 show (syD _).loose.length≤_;omega
 show (clrW _ _ _ _ _).1.loose.length≤_;omega
 show (clrW _ _ _ _ _).1.loose.length≤_;omega
theorem openC_loose (n:Nat) (t:Int) (f:List Blk) (s:DS):(openC n t f s).1.loose.length≤s.loose.length+f.length:=by
 have h:=clrF_loose (fromN n t) (readF t f f.length 0 0).2 f s
 rw[openC]
 split
 show s.loose.length≤_;omega
 split
 exact h
 exact h
theorem openF_loose (s:DS):(openF s).1.loose.length≤s.loose.length+1000:=by
 obtain ⟨h1,h2⟩:=cntF_ok s
 rw[openF]
 split
 rename_i h0
 have hn:=(h2 h0).2.1
 obtain ⟨g1,g2⟩:=fieldW_same (fromN (cntF s).2.2.n.toNat (cntF s).2.2.t) (cntF s).2.2.n.toNat 0 (cntF s).1
 rw[openB]
 split
 have:=openC_loose (cntF s).2.2.n.toNat (cntF s).2.2.t (fieldW (fromN (cntF s).2.2.n.toNat (cntF s).2.2.t) (cntF s).2.2.n.toNat 0 (cntF s).1).2.2 (fieldW (fromN (cntF s).2.2.n.toNat (cntF s).2.2.t) (cntF s).2.2.n.toNat 0 (cntF s).1).1
 rw[g1,h1]at this
 omega
 show (fieldW _ _ _ _).1.loose.length≤_
 rw[g1,h1];omega
 show (cntF s).1.loose.length≤_
 rw[h1];omega
instance encAct:Enc LAct:=⟨4,cAct,fun _=>rfl,fun x u hu=>by simp only[List.mem_cons,List.not_mem_nil,or_false]at hu;rcases hu with rfl | rfl | rfl | rfl <;> rfl⟩
instance layAct:Lay LAct:={ encAct with
 dflt:=⟨0,0,0,none,0,[]⟩
 inn:=fun w x=>x.keep.length≤x.c∧x.c≤maxLen∧GlF x.p x.keep w
 mono:=fun _w _w' _x h hx=>⟨hx.1,hx.2.1,hx.2.2.mono h⟩ }
theorem laid_sum (t:Int):∀ (said:List (List UInt8)) (j:Nat),(laidF t said j).length=(said.map fun b=>secN b.length).sum
 | [],_=>rfl
 | b::l,j=>by rw[laidF,List.length_append,leavesF_len,laid_sum t l,List.map_cons,List.sum_cons]
theorem endF_sum (t:Int) (said:List (List UInt8)):endF t said=(said.map fun b=>secN b.length).sum:=laid_sum t said 0
theorem St.entFact {w0:World} {M0:Nat→Prop} {ds:List Deferred} {a:Act} {w:World} {l:List Value} {bs bs':List Wk.Item} {fs:List (World→Prop)} (S:St w0 M0 ds a w l bs fs) (ys:List LBy) [hd:DropI bs (entI ys) bs']:St w0 M0 ds a w l bs' (AllBy ys::fs):=by
 have S1:=S.perm _ hd.perm
 have hap:=List.pairwise_cons.1 S1.wd.apart
 have hr:(entI ys).holds w:=S1.wd.held _ (by simp)
 have S2:St w0 M0 ds a w l bs' fs:=⟨S1.slots,S1.defers,S1.wd.sub (.cons _ (.refl _)) (.refl _)⟩
 exact S2.add fun w' ha y hy=>gl_loc (fun ad hp=>ha.blk ((hr y hy).1 ad hp) (fun⟨it,hi,hk⟩=>hap.1 it hi ad.block ⟨y,hy,ad,hp,rfl⟩ hk)) (hr y hy).2
end Go.Proofs.YtdakncgafdnjfaaGreat